/-
  The texts Read, Str, Cmp, Ver, Readc, Found, Rule2, Off, Strange, Unlike of this proof in one: what each proves is said at its head. No conditions beyond those that each theorem says.
-/
import Derived.Test.YtjakhemolecbnaaMA
import Derived.Test.YtjakhemolecbnaaMC
import Derived.Test.YtjakhemolecbnaaMB
import Derived.Test.YtjakhemolecbnaaMD

/-
  The walk of audit's Read, on any bytes.
-/
section
set_option linter.unusedVariables false
set_option linter.unusedSimpArgs false
namespace Go.Proofs.Ytjakhemolecbnaa
open Go.RowKit

section
variable {P : Program}
/-- A struct in a cell and one value more, returned. -/
theorem results_row_tmp {fn : Func} {p u : Tmp} {ty : TypeId} (h : fn.results = #[.cell p ty, .tmp u]) (tmps : Array Value) (w : World) (g : Nat) (t : TypeId) (cs : Array Value) (fr : Nat × Nat) (d : TypeDesc)
    (hp : tmps.getD p undef = .pointer (some ⟨g, 0, none⟩)) (hg : w.heap[g]? = some (.cells cs t fr))
    (hu : P.underlying ty = some d) (hd : (match d with | .struct _ | .array _ _ => true | _ => false) = true) (hi : (P.info? ty).map (·.size) = some cs.size) :
    (results fn tmps).run P w = .ok (.tuple #[.agg cs, tmps.getD u undef]) w := by
  rw [results_cell_tmp h, hp]
  simp [asAddr, run_loadVar_row w g t ty cs fr d hg hu hd hi]
end
theorem infoRec : (Try.prog.info? 24).map (·.size) = some 4 := by kernel_rfl

theorem ret_val {a b : Bool} (h : a = b) : Value.bool a = .bool b := by rw [h]
/-- A record, plain. -/
structure Rp where
  kind : Int
  tx : List UInt8
  groups : List Int
  body : List UInt8
deriving DecidableEq
def Rp.m (r : Rp) (A : Option Addr) (c : Nat) : Rm := ⟨r.kind, r.tx, A, c, r.groups, r.body⟩
def Rm.p (m : Rm) : Rp := ⟨m.kind, m.tx, m.groups, m.body⟩
def recZ : Array Value := #[.int .i64 0, .string ⟨#[]⟩, .slice none 0 0, .string ⟨#[]⟩]

/-- The groups of a record that is read, one by one. -/
def grpS (l : List UInt8) : Nat → Rs → List UInt8 × Rs
  | 0, s => ([], s)
  | j + 1, s => ((grpS l j s).1 ++ [(byteS l (grpS l j s).2).1], (byteS l (grpS l j s).2).2)
theorem grpS_length (l : List UInt8) : ∀ (j : Nat) (s : Rs), (grpS l j s).1.length = j
  | 0, _ => rfl
  | j + 1, s => by show ((grpS l j s).1 ++ [_]).length = _; rw [List.length_append, grpS_length l j s]; rfl
def finePre (k : Int) (t : List UInt8) : Bool := decide (1 ≤ k) && (decide (k ≤ 4) && (decide (t = []) == decide (k = 1)))
def fineStep (q : Bool × Int) (x : UInt8) : Bool × Int := (q.1 && (decide (q.2 < un8 x) && decide (un8 x < 3)), un8 x)
def fineOf (q : Bool) (gs : List UInt8) : Bool := (gs.foldl fineStep (q, -1)).1
/-- What a text is as a record. -/
def readS (l : List UInt8) : Option Rp :=
  if (endS l (textS l 4000 (grpS l (byteS l (textS l 4000 (byteS l ⟨0, 0, 0⟩).2).2).1.toNat (byteS l (textS l 4000 (byteS l ⟨0, 0, 0⟩).2).2).2).2).2).1 = 0 ∧ fineOf (finePre (un8 (byteS l ⟨0, 0, 0⟩).1) (textS l 4000 (byteS l ⟨0, 0, 0⟩).2).1) (grpS l (byteS l (textS l 4000 (byteS l ⟨0, 0, 0⟩).2).2).1.toNat (byteS l (textS l 4000 (byteS l ⟨0, 0, 0⟩).2).2).2).1 = true
  then some ⟨un8 (byteS l ⟨0, 0, 0⟩).1, (textS l 4000 (byteS l ⟨0, 0, 0⟩).2).1, (grpS l (byteS l (textS l 4000 (byteS l ⟨0, 0, 0⟩).2).2).1.toNat (byteS l (textS l 4000 (byteS l ⟨0, 0, 0⟩).2).2).2).1.map un8, (textS l 4000 (grpS l (byteS l (textS l 4000 (byteS l ⟨0, 0, 0⟩).2).2).1.toNat (byteS l (textS l 4000 (byteS l ⟨0, 0, 0⟩).2).2).2).2).1⟩
  else none
theorem RdAt.lower {w : World} {B B' p : Nat} {v : Value} {l : List UInt8} {s : Rs} (h : RdAt w B p v l s) (hb : B' ≤ B) : RdAt w B' p v l s := ⟨h.at_, own_lower h.own hb, h.ne, Nat.le_trans hb h.base, h.le, h.z⟩
def gvs (gs : List UInt8) : List Value := gs.map fun g => .int .i64 (un8 g)
theorem gvs_snoc (gs : List UInt8) (x : UInt8) : gvs (gs ++ [x]) = gvs gs ++ [.int .i64 (un8 x)] := by simp [gvs]

set_option maxRecDepth 100000 in
set_option maxHeartbeats 8000000 in
theorem read_any (s : List UInt8) (w : World) (hs : s.length ≤ 100000000) :
    Calls Try.prog 19 #[.string (strB s)] w fun e w' => Below w.heap.size w w' ∧
      ((readS s = none ∧ e = .returned (.tuple #[.agg recZ, .int .i64 12])) ∨
       (∃ r A c, readS s = some r ∧ e = .returned (.tuple #[.agg (r.m A c).cells.toArray, .int .i64 0]) ∧ w'.ownsRow w.heap.size 3 1 (.slice A r.groups.length c) r.groups.length (r.groups.map (Value.int .i64)))) := by
  have kc := fun W => Lib.run_convert_string_bytes (P := Try.prog) W 9 25 5 (strB s) Try.underlying9 Try.underlying25 Try.underlying5
  have hb1 : Below w.heap.size w (w.alloc (.cells recZ 24)) := (Below.refl _ _).alloc (Nat.le_refl _) _
  have hx1 := heap_alloc_new w (.cells recZ 24)
  have hz1 : w.heap.size < (w.alloc (.cells recZ 24)).heap.size := by simp
  obtain ⟨w1, hw1⟩ : ∃ w1, w1 = w.alloc (.cells recZ 24) := ⟨_, rfl⟩
  rw [← hw1] at hb1 hx1 hz1
  obtain ⟨bz, hbz⟩ : ∃ bz, bz = w.heap.size := ⟨_, rfl⟩
  have HB1 := Lib.hid hb1
  have HX1 := Lib.hid hx1
  have HW1 := Lib.hid hw1
  have HZ1 := Lib.hid hz1
  have HBZ := Lib.hid hbz
  clear hb1 hx1 hw1 hz1 hbz
  obtain ⟨R, hR⟩ : ∃ R, readS s = R := ⟨_, rfl⟩
  rw [hR]
  unfold readS at hR
  obtain ⟨kb, s1, ek⟩ : ∃ kb s1, byteS s ⟨0, 0, 0⟩ = (kb, s1) := ⟨_, _, rfl⟩
  have htl := textS_small s s1
  obtain ⟨tx, s2, et⟩ : ∃ tx s2, textS s 4000 s1 = (tx, s2) := ⟨_, _, rfl⟩
  rw [et] at htl
  obtain ⟨nb, s3, en⟩ : ∃ nb s3, byteS s s2 = (nb, s3) := ⟨_, _, rfl⟩
  obtain ⟨N, hN⟩ : ∃ N, nb.toNat = N := ⟨_, rfl⟩
  have hN1 : un8 nb = (N : Int) := by rw [← hN]; rfl
  have hN2 : N ≤ 255 := by have := nb.toNat_lt; omega
  obtain ⟨gg, s4, eg⟩ : ∃ gg s4, grpS s N s3 = (gg, s4) := ⟨_, _, rfl⟩
  obtain ⟨bd, s5, eb⟩ : ∃ bd s5, textS s 4000 s4 = (bd, s5) := ⟨_, _, rfl⟩
  obtain ⟨ew, een, ee⟩ : ∃ ew een, endS s s5 = (ew, een) := ⟨_, _, rfl⟩
  obtain ⟨f0, hf0⟩ : ∃ f0, finePre (un8 kb) tx = f0 := ⟨_, rfl⟩
  simp only [ek, et, en, hN, eg, eb, ee, hf0] at hR
  have HR := Lib.hid hR
  have EK := Lib.hid ek
  have ET := Lib.hid et
  have EN := Lib.hid en
  have HN1 := Lib.hid hN1
  have HN2 := Lib.hid hN2
  have EG := Lib.hid eg
  have EB := Lib.hid eb
  have EE := Lib.hid ee
  have HF0 := Lib.hid hf0
  have HS := Lib.hid hs
  clear hR ek et en hN hN1 hN2 eg eb ee hf0 hs htl
  have hkr := un8_range kb
  go_enter Try.func19, Try.ntmps19
  go_upto_region 1 with fail
  rw [show w.alloc (.cells #[.int .i64 0, .string ⟨#[]⟩, .slice none 0 0, .string ⟨#[]⟩] 24) = w1 from HW1.out.symm, ← HBZ.out]
  go_wp2_with fail
  refine (newReader_any _ (strB s).size _ s _ (strB_size s).symm (by rw [strB_size]; exact HS.out) (by have := bytes_RB w1 5 (strB s); rwa [strB_toList] at this) (fun h => by cases h)).mono ?_
  rintro e w2 ⟨q, vq, rfl, hw, hb⟩
  have hbb := bytes_below (Below.refl w1.heap.size w1) (Nat.le_refl _) 5 (strB s)
  have RD2 := Lib.hid ((RdAt.of_good hw (Nat.zero_le _)).lower hbb.size)
  have B2 := Lib.hid (below_below hbb hbb.size hb)
  clear hw hb hbb kc
  go_wp2_with fail
  refine (byte_g _ _ _ _ _ _ RD2.out HS.out).mono ?_
  rw [EK.out]
  rintro e w3 ⟨rfl, hw, hu⟩
  have RD3 := Lib.hid hw
  have B3 := Lib.hid (RD2.out.goes B2.out B2.out.size hu)
  clear hw hu
  go_wp2_with fail
  refine (text_g _ _ _ _ _ _ RD3.out HS.out 4000 (by omega)).mono ?_
  rw [ET.out]
  rintro e w4 ⟨rfl, hw, hu⟩
  have RD4 := Lib.hid hw
  have B4 := Lib.hid (RD3.out.goes B3.out B3.out.size hu)
  clear hw hu
  have hvl : ∀ k, vq.ownBlock = some k → k < w4.heap.size := fun k hk => (World.ownsRow.lt RD4.out.own k hk).2
  have hql := RD4.out.lt
  have hb5 : Below w4.heap.size w4 (w4.alloc (.cells #[.int .i64 (un8 kb), .string (strB tx), .slice none 0 0, .string ⟨#[]⟩] 24)) := (Below.refl _ _).alloc (Nat.le_refl _) _
  have hx5 := heap_alloc_new w4 (.cells #[.int .i64 (un8 kb), .string (strB tx), .slice none 0 0, .string ⟨#[]⟩] 24)
  have hz5 : w4.heap.size < (w4.alloc (.cells #[.int .i64 (un8 kb), .string (strB tx), .slice none 0 0, .string ⟨#[]⟩] 24)).heap.size := by simp
  obtain ⟨w5, hw5⟩ : ∃ w5, w5 = w4.alloc (.cells #[.int .i64 (un8 kb), .string (strB tx), .slice none 0 0, .string ⟨#[]⟩] 24) := ⟨_, rfl⟩
  rw [← hw5] at hb5 hx5 hz5
  have HW5 := Lib.hid hw5
  have RD5 := Lib.hid (RD4.out.below hb5)
  have B5 := Lib.hid (below_below B4.out B4.out.size hb5)
  have HX5 := Lib.hid hx5
  have hgl : w1.heap.size ≤ w4.heap.size := B4.out.size
  obtain ⟨gx, hgx⟩ : ∃ gx, gx = w4.heap.size := ⟨_, rfl⟩
  rw [← hgx] at HX5 hvl hql hz5 hgl
  have HGX := Lib.hid hgx
  have HVL := Lib.hid hvl
  have HQL := Lib.hid hql
  have HZ5 := Lib.hid hz5
  have HGL := Lib.hid hgl
  clear hw5 hb5 hx5 hgx hvl hql hz5 hgl
  go_upto_region 3 with fail
  rw [← HW5.out, ← HGX.out]
  have D0 : w5.cell? ⟨gx, 0, none⟩ = some (.int .i64 (un8 kb)) := (cell_of_row w5 gx 0 _ _ _ HX5.out).trans rfl
  have D1 : w5.cell? ⟨gx, 1, none⟩ = some (.string (strB tx)) := (cell_of_row w5 gx 1 _ _ _ HX5.out).trans rfl
  go_cut [6] (fun s6 wx => s6 = .bool f0 ∧ wx = w5)
  case first =>
    have hf := HF0.out
    unfold finePre at hf
    by_cases h1 : 1 ≤ un8 kb
    · by_cases h4 : un8 kb ≤ 4
      · rw [decide_eq_true h1, decide_eq_true h4, Bool.true_and, Bool.true_and] at hf
        have HF := Lib.hid (show ((strB tx).toList.isEmpty == (un8 kb == 1)) = f0 by
          rw [← hf, ByteArray.toList_eq, strB_toList]
          have h1 : tx.isEmpty = decide (tx = []) := by cases tx <;> simp
          have h2 : (un8 kb == 1) = decide (un8 kb = 1) := by by_cases h : un8 kb = 1 <;> simp [h]
          rw [h1, h2])
        clear hf
        go_wp2_with fail
        go_meet
        exact ⟨ret_val HF.out, rfl⟩
      · have HF := Lib.hid (show false = f0 by rw [← hf]; simp [h4])
        clear hf
        go_wp2_with fail
        go_meet
        exact ⟨ret_val HF.out, rfl⟩
    · have HF := Lib.hid (show false = f0 by rw [← hf]; simp [h1])
      clear hf
      go_wp2_with fail
      go_meet
      exact ⟨ret_val HF.out, rfl⟩
  case rest =>
    obtain ⟨rfl, hwx⟩ := hcut
    have hwx2 := hwx.symm
    clear hwx
    subst hwx2
    clear D0 D1
    go_wp2_with fail
    refine (byte_g _ _ _ _ _ _ RD5.out HS.out).mono ?_
    rw [EN.out]
    dsimp only
    rw [HN1.out]
    rintro e w6 ⟨rfl, hw, hu⟩
    have RD6 := Lib.hid hw
    have B6 := Lib.hid (RD5.out.goes B5.out B5.out.size hu)
    have HX6 := Lib.hid ((hu.block gx (by have := HZ5.out; omega) (by have := HQL.out; omega)).trans HX5.out)
    have HZ6 := Lib.hid (show gx < w6.heap.size from Nat.lt_of_lt_of_le HZ5.out hu.size)
    clear hw hu
    have hn0 : (N : Int) ≤ 255 := by have := HN2.out; omega
    go_wp2_with fail
    go_loopg [6,7,8,9] N (fun k s6 s7 s8 s9 wr => ∃ (j : Nat) (gs : List UInt8) (st : Rs) (vg : Value), j ≤ N ∧ k = N - j ∧ grpS s j s3 = (gs, st) ∧ s6 = .bool (gs.foldl fineStep (f0, -1)).1 ∧ s7 = .int .i64 (gs.foldl fineStep (f0, -1)).2 ∧ s8 = .int .i64 ((N : Int) - (j : Int)) ∧ RdAt wr w1.heap.size q vq s st ∧ wr.heap[gx]? = some (.cells #[.int .i64 (un8 kb), .string (strB tx), vg, .string ⟨#[]⟩] 24 (0, 0)) ∧ wr.ownsRow w6.heap.size 3 1 vg j (gvs gs) ∧ Below w1.heap.size w1 wr ∧ w6.heap.size ≤ wr.heap.size)
    case atStart => exact ⟨0, [], s3, _, Nat.zero_le _, by omega, rfl, rfl, rfl, by simp, RD6.out, HX6.out, World.ownsRow_nil _ _ _ _, B6.out, Nat.le_refl _⟩
    case round =>
      obtain ⟨j, gs, st, vg, hj, hk, hgs, rfl, rfl, rfl, hrd, hbx, how, hb, hsz⟩ := hrel
      obtain ⟨A, c, rfl, hjc⟩ := own_slice how
      obtain ⟨fb, fl, hfl⟩ : ∃ fb fl, gs.foldl fineStep (f0, -1) = (fb, fl) := ⟨_, _, rfl⟩
      rw [hfl]
      dsimp only
      have HK := Lib.hid hk
      have HGS := Lib.hid hgs
      have HRD := Lib.hid hrd
      have HBX := Lib.hid hbx
      have HOW := Lib.hid how
      have HB := Lib.hid hb
      have HSZ := Lib.hid hsz
      have HFL := Lib.hid hfl
      have HJC := Lib.hid hjc
      clear hk hgs hrd hbx how hb hsz hfl hjc
      by_cases hlt : j < N
      · have hp0 : (0 : Int) < (N : Int) - (j : Int) := by omega
        obtain ⟨x, st', ex⟩ : ∃ x st', byteS s st = (x, st') := ⟨_, _, rfl⟩
        have EX := Lib.hid ex
        have HG2 := Lib.hid (show grpS s (j + 1) s3 = (gs ++ [x], st') by
          show ((grpS s j s3).1 ++ [(byteS s (grpS s j s3).2).1], (byteS s (grpS s j s3).2).2) = _
          rw [HGS.out]
          dsimp only
          rw [ex])
        have HF2 := Lib.hid (show (gs ++ [x]).foldl fineStep (f0, -1) = (fb && (decide (fl < un8 x) && decide (un8 x < 3)), un8 x) by
          rw [List.foldl_append, HFL.out]
          rfl)
        have hxr := un8_range x
        have HLT := Lib.hid hlt
        clear ex hlt hj
        go_wp2_with fail
        refine (byte_g _ _ _ _ _ _ HRD.out HS.out).mono ?_
        rw [EX.out]
        rintro e w7 ⟨rfl, hw, hu⟩
        have RD7 := Lib.hid hw
        have B7 := Lib.hid (HRD.out.goes HB.out HB.out.size hu)
        have HX7 := Lib.hid ((hu.block gx (by have := HZ6.out; have := HSZ.out; omega) (by have := HQL.out; omega)).trans HBX.out)
        have HO7 := Lib.hid (own_upd HOW.out hu (fun k hk e => by have := (World.ownsRow.lt HOW.out k hk).1; have := HQL.out; have := HZ6.out; omega))
        have HS7 := Lib.hid (Nat.le_trans HSZ.out hu.size)
        clear hw hu
        dsimp only
        go_upto_region 9 with fail
        go_cut [6] (fun s6 wx => s6 = .bool (fb && (decide (fl < un8 x) && decide (un8 x < 3))) ∧ wx = w7)
        case first =>
          cases fb with
          | false =>
            go_wp2_with fail
            go_meet
            exact ⟨rfl, rfl⟩
          | true =>
            by_cases h1 : fl < un8 x
            · have HD := Lib.hid (show decide (un8 x < 3) = (true && (decide (fl < un8 x) && decide (un8 x < 3))) by simp [h1])
              go_wp2_with fail
              go_meet
              exact ⟨ret_val HD.out, rfl⟩
            · have HD := Lib.hid (show false = (true && (decide (fl < un8 x) && decide (un8 x < 3))) by simp [h1])
              go_wp2_with fail
              go_meet
              exact ⟨ret_val HD.out, rfl⟩
        case rest =>
          obtain ⟨rfl, hwx⟩ := hcut
          have hwx2 := hwx.symm
          clear hwx
          subst hwx2
          obtain ⟨fb', hfb'⟩ : ∃ fb', (fb && (decide (fl < un8 x) && decide (un8 x < 3))) = fb' := ⟨_, rfl⟩
          rw [hfb'] at HF2 ⊢
          clear hfb'
          have D2 : w7.cell? ⟨gx, 2, none⟩ = some (.slice A j c) := (cell_of_row w7 gx 2 _ _ _ HX7.out).trans rfl
          have D2a : ∀ ob, (w7.alloc ob).cell? ⟨gx, 2, none⟩ = some (.slice A j c) := fun ob => Lib.cell?_alloc_some ob D2
          go_upto_region 11 with fail
          go_wp2_with (at_builtin; refine append_any rfl (.tmp 57) (.tmp 59) 22 rfl w6.heap.size 3 (.int .i64 0) 1 8 Try.underlying22 infoI rfl (by omega) (by omega) _ j (gvs gs) rfl (HO7.out.alloc _) _ 1 1 [.int .i64 (un8 x)] rfl rfl (RC_newL _ [.int .i64 (un8 x)] 3) (by intro u hu; simp at hu; rw [hu]; rfl) ?c1 ?c2 ?_)
          case c1 => have := HLT.out; have := HN2.out; omega
          case c2 => have := HS7.out; simp; omega
          intro v8 w8 ho8 hg8 hat8
          have hu8 : Upd (fun k => (Value.slice A j c).ownBlock = some k) w7 w8 := ((Upd.refl _ w7).alloc _).grown hg8 (fun k hk _ => hk)
          have hnb : ∀ k, (Value.slice A j c).ownBlock = some k → w6.heap.size ≤ k := fun k hk => (World.ownsRow.lt HO7.out k hk).1
          have RD8 := Lib.hid (RD7.out.upd hu8 (fun e => by have := hnb _ e; have := HZ6.out; have := HQL.out; omega) (fun k hk e => by have := hnb _ e; have := HVL.out k hk; have := HZ6.out; omega))
          have hs8 : w7.heap.size ≤ w8.heap.size := hu8.size
          have B8 := Lib.hid (below_upd B7.out B7.out.size hu8 (fun k hk => by have := hnb k hk; have := HGL.out; have := HZ6.out; omega))
          have HX8 := Lib.hid ((hu8.block gx (by have := HZ6.out; have := HS7.out; omega) (fun e => by have := hnb _ e; have := HZ6.out; omega)).trans HX7.out)
          have HO8 := Lib.hid (show w8.ownsRow w6.heap.size 3 1 v8 (j + 1) (gvs (gs ++ [x])) by rw [gvs_snoc]; exact ho8)
          have HS8 := Lib.hid (Nat.le_trans HS7.out hs8)
          obtain ⟨A8, c8, rfl, _⟩ := own_slice ho8
          have f2 : w8.frozen? ⟨gx, 2, none⟩ = false := frozen_of_row w8 gx 2 _ _ HX8.out
          have d2 : w8.cell? ⟨gx, 2, none⟩ = some (.slice A j c) := (cell_of_row w8 gx 2 _ _ _ HX8.out).trans rfl
          have hu9 : Upd (fun k => k = gx) w8 (w8.setCell ⟨gx, 2, none⟩ (.slice A8 (j + 1) c8)) := (Upd.refl (fun k => k = gx) w8).setCell (p := ⟨gx, 2, none⟩) (fun _ => rfl) _
          have HU9 := Lib.hid hu9
          clear ho8 hg8 hat8 hu8 hnb hs8 hu9 D2 D2a
          go_wp2_with fail
          go_roundg (N - (j + 1))
          case measure => have := HK.out; have := HLT.out; omega
          case rel =>
            refine ⟨j + 1, gs ++ [x], st', .slice A8 (j + 1) c8, HLT.out, rfl, HG2.out, by rw [HF2.out], by rw [HF2.out], by go_num, ?_, ?_, ?_, ?_, ?_⟩
            · exact RD8.out.upd HU9.out (by have := HQL.out; omega) (fun k hk e => by have := HVL.out k hk; omega)
            · rw [setCell_at HX8.out _]; rfl
            · exact own_upd HO8.out HU9.out (fun k hk e => by have := (World.ownsRow.lt HO8.out k hk).1; have := HZ6.out; omega)
            · exact below_upd B8.out B8.out.size HU9.out (fun k hk => by rw [hk]; exact HGL.out)
            · exact Nat.le_trans HS8.out HU9.out.size
      · obtain rfl : j = N := by omega
        have hgg : gs = gg ∧ st = s4 := by
          have := HGS.out.symm.trans EG.out
          simpa using this
        obtain ⟨rfl, rfl⟩ := hgg
        have HRR := Lib.hid (show (if ew = 0 ∧ fb = true then some (⟨un8 kb, tx, gs.map un8, bd⟩ : Rp) else none) = R by
          have h := HR.out
          unfold fineOf at h
          rw [HFL.out] at h
          exact h)
        have hgl : gs.length = j := by have := grpS_length s j s3; rw [HGS.out] at this; exact this
        have HGLN := Lib.hid hgl
        clear hlt hj hgl
        go_wp2_with fail
        refine (text_g _ _ _ _ _ _ HRD.out HS.out 4000 (by omega)).mono ?_
        rw [EB.out]
        rintro e w7 ⟨rfl, hw, hu⟩
        have RD7 := Lib.hid hw
        have B7 := Lib.hid (HRD.out.goes HB.out HB.out.size hu)
        have HX7 := Lib.hid ((hu.block gx (by have := HZ6.out; have := HSZ.out; omega) (by have := HQL.out; omega)).trans HBX.out)
        have HO7 := Lib.hid (own_upd HOW.out hu (fun k hk e => by have := (World.ownsRow.lt HOW.out k hk).1; have := HQL.out; have := HZ6.out; omega))
        have HS7 := Lib.hid (Nat.le_trans HSZ.out hu.size)
        clear hw hu
        dsimp only
        have f3 : w7.frozen? ⟨gx, 3, none⟩ = false := frozen_of_row w7 gx 3 _ _ HX7.out
        have d3 : w7.cell? ⟨gx, 3, none⟩ = some (.string ⟨#[]⟩) := (cell_of_row w7 gx 3 _ _ _ HX7.out).trans rfl
        have hu8 : Upd (fun k => k = gx) w7 (w7.setCell ⟨gx, 3, none⟩ (.string (strB bd))) := (Upd.refl (fun k => k = gx) w7).setCell (p := ⟨gx, 3, none⟩) (fun _ => rfl) _
        have hx8 : (w7.setCell ⟨gx, 3, none⟩ (.string (strB bd))).heap[gx]? = some (.cells #[.int .i64 (un8 kb), .string (strB tx), .slice A j c, .string (strB bd)] 24 (0, 0)) := by rw [setCell_at HX7.out _]; rfl
        obtain ⟨w8, hw8⟩ : ∃ w8, w8 = w7.setCell ⟨gx, 3, none⟩ (.string (strB bd)) := ⟨_, rfl⟩
        rw [← hw8] at hu8 hx8
        have RD8 := Lib.hid (RD7.out.upd hu8 (by have := HQL.out; omega) (fun k hk e => by have := HVL.out k hk; omega))
        have B8 := Lib.hid (below_upd B7.out B7.out.size hu8 (fun k hk => by rw [hk]; exact HGL.out))
        have HO8 := Lib.hid (own_upd HO7.out hu8 (fun k hk e => by have := (World.ownsRow.lt HO7.out k hk).1; have := HZ6.out; omega))
        have HX8 := Lib.hid hx8
        have HW8 := Lib.hid hw8
        have HS8 := Lib.hid (Nat.le_trans HS7.out hu8.size)
        clear hu8 hx8 hw8
        go_upto_region 13 with fail
        rw [← HW8.out]
        clear f3 d3
        go_wp2_with fail
        refine (end_g _ _ _ _ _ _ RD8.out HS.out).mono ?_
        rw [EE.out]
        rintro e w9 ⟨rfl, hu⟩
        have B9 := Lib.hid (RD8.out.goes B8.out B8.out.size hu)
        have HX9 := Lib.hid ((hu.block gx (by have := HZ6.out; have := HS8.out; omega) (by have := HQL.out; omega)).trans HX8.out)
        have HO9 := Lib.hid (own_upd HO8.out hu (fun k hk e => by have := (World.ownsRow.lt HO8.out k hk).1; have := HQL.out; have := HZ6.out; omega))
        clear hu
        have HXZ := Lib.hid (show w9.heap[bz]? = some (.cells recZ 24 (0, 0)) from (B9.out.block bz (by rw [HBZ.out]; exact HZ1.out)).trans (by rw [HBZ.out]; exact HX1.out))
        have z0 := frozen_of_row w9 bz 0 _ _ HXZ.out
        have z1 := frozen_of_row w9 bz 1 _ _ HXZ.out
        have z2 := frozen_of_row w9 bz 2 _ _ HXZ.out
        have z3 := frozen_of_row w9 bz 3 _ _ HXZ.out
        have y0 : w9.cell? ⟨bz, 0, none⟩ = some (.int .i64 0) := (cell_of_row w9 bz 0 _ _ _ HXZ.out).trans rfl
        have y1 : w9.cell? ⟨bz, 1, none⟩ = some (.string ⟨#[]⟩) := (cell_of_row w9 bz 1 _ _ _ HXZ.out).trans rfl
        have y2 : w9.cell? ⟨bz, 2, none⟩ = some (.slice none 0 0) := (cell_of_row w9 bz 2 _ _ _ HXZ.out).trans rfl
        have y3 : w9.cell? ⟨bz, 3, none⟩ = some (.string ⟨#[]⟩) := (cell_of_row w9 bz 3 _ _ _ HXZ.out).trans rfl
        have HFIN := Lib.hid (show ∀ v0 v1 v2 v3 W, W = (((w9.setCell ⟨bz, 0, none⟩ v0).setCell ⟨bz, 1, none⟩ v1).setCell ⟨bz, 2, none⟩ v2).setCell ⟨bz, 3, none⟩ v3 → W.heap[bz]? = some (.cells #[v0, v1, v2, v3] 24 (0, 0)) ∧ Upd (fun k => k = bz) w9 W from by
          rintro v0 v1 v2 v3 W rfl
          refine ⟨?_, ((((Upd.refl (fun k => k = bz) w9).setCell (p := ⟨bz, 0, none⟩) (fun _ => rfl) _).setCell (p := ⟨bz, 1, none⟩) (fun _ => rfl) _).setCell (p := ⟨bz, 2, none⟩) (fun _ => rfl) _).setCell (p := ⟨bz, 3, none⟩) (fun _ => rfl) _⟩
          rw [setCell_at (setCell_at (setCell_at (setCell_at HXZ.out _) _) _) _]
          rfl)
        have HBW := Lib.hid (show Below w.heap.size w w9 from below_below HB1.out HB1.out.size B9.out)
        by_cases hok : ew = 0 ∧ fb = true
        · obtain ⟨rfl, rfl⟩ := hok
          have HRS := Lib.hid (HRR.out.symm.trans (if_pos ⟨rfl, rfl⟩))
          have x0 : w9.cell? ⟨gx, 0, none⟩ = some (.int .i64 (un8 kb)) := (cell_of_row w9 gx 0 _ _ _ HX9.out).trans rfl
          have x1 : w9.cell? ⟨gx, 1, none⟩ = some (.string (strB tx)) := (cell_of_row w9 gx 1 _ _ _ HX9.out).trans rfl
          have x2 : w9.cell? ⟨gx, 2, none⟩ = some (.slice A j c) := (cell_of_row w9 gx 2 _ _ _ HX9.out).trans rfl
          have x3 : w9.cell? ⟨gx, 3, none⟩ = some (.string (strB bd)) := (cell_of_row w9 gx 3 _ _ _ HX9.out).trans rfl
          go_wp2_with fail
          try simp only [Exit.inBlock, Exit.then]
          obtain ⟨hf1, hf2⟩ := HFIN.out _ _ _ _ _ rfl
          refine bodyPost_ret (v := .tuple #[.agg #[.int .i64 (un8 kb), .string (strB tx), .slice A j c, .string (strB bd)], .int .i64 0]) ?_ rfl ?_
          · refine Eq.trans (results_row_tmp rfl _ _ bz 24 _ (0, 0) _ rfl hf1 Try.underlying24 rfl infoRec) ?_
            rfl
          · refine ⟨below_upd HBW.out HBW.out.size hf2 (fun k hk => by rw [hk, HBZ.out]; exact Nat.le_refl _), .inr ⟨⟨un8 kb, tx, gs.map un8, bd⟩, A, c, HRS.out, ?_, ?_⟩⟩
            · simp only [Rp.m, Rm.cells, List.length_map, HGLN.out]
            · have h := own_upd HO9.out hf2 (fun k hk e => by have := (World.ownsRow.lt HO9.out k hk).1; have := HBZ.out; have := HZ1.out; have := HGL.out; have := HZ6.out; omega)
              have h2 := own_lower h (show w.heap.size ≤ w6.heap.size by have := HZ1.out; have := HGL.out; have := HZ6.out; omega)
              simp only [List.length_map, HGLN.out, List.map_map]
              exact h2
        · have HRS := Lib.hid (HRR.out.symm.trans (if_neg hok))
          by_cases hew : ew = 0
          · subst hew
            have hfb : fb = false := by
              cases fb with
              | false => rfl
              | true => exact absurd ⟨rfl, rfl⟩ hok
            subst hfb
            clear hok
            go_wp2_with fail
            try simp only [Exit.inBlock, Exit.then]
            obtain ⟨hf1, hf2⟩ := HFIN.out _ _ _ _ _ rfl
            refine bodyPost_ret (v := .tuple #[.agg recZ, .int .i64 12]) ?_ rfl ?_
            · refine Eq.trans (results_row_tmp rfl _ _ bz 24 _ (0, 0) _ rfl hf1 Try.underlying24 rfl infoRec) ?_
              rfl
            · exact ⟨below_upd HBW.out HBW.out.size hf2 (fun k hk => by rw [hk, HBZ.out]; exact Nat.le_refl _), .inl ⟨HRS.out, rfl⟩⟩
          · have hne : (ew != 0) = true := by simpa using hew
            clear hok hew
            go_wp2_with fail
            try simp only [Exit.inBlock, Exit.then]
            obtain ⟨hf1, hf2⟩ := HFIN.out _ _ _ _ _ rfl
            refine bodyPost_ret (v := .tuple #[.agg recZ, .int .i64 12]) ?_ rfl ?_
            · refine Eq.trans (results_row_tmp rfl _ _ bz 24 _ (0, 0) _ rfl hf1 Try.underlying24 rfl infoRec) ?_
              rfl
            · exact ⟨below_upd HBW.out HBW.out.size hf2 (fun k hk => by rw [hk, HBZ.out]; exact Nat.le_refl _), .inl ⟨HRS.out, rfl⟩⟩
end Go.Proofs.Ytjakhemolecbnaa
end

/-
  The test of strange, and whether a row of records holds one that passes it.
-/
section
set_option linter.unusedVariables false
set_option linter.unusedSimpArgs false
namespace Go.Proofs.Ytjakhemolecbnaa
open Go.RowKit

/-- The record that the test of strange has captured: its transaction and its groups. -/
structure StAt (w : World) (g : Nat) (s : List UInt8) (gA : Option Addr) (gc : Nat) (zs : List Int) : Prop where
  c1 : w.cell? ⟨g, 1, none⟩ = some (.string (strB s))
  c2 : w.cell? ⟨g, 2, none⟩ = some (.slice gA zs.length gc)
  r : RG w gA zs
theorem StAt.below {w w' : World} {g : Nat} {s : List UInt8} {gA : Option Addr} {gc : Nat} {zs : List Int} (h : StAt w g s gA gc zs) (hb : Below w.heap.size w w') : StAt w' g s gA gc zs := ⟨cell_below hb h.c1, cell_below hb h.c2, h.r.below hb⟩

set_option maxHeartbeats 2000000 in
theorem str1_any (g : Nat) (s : List UInt8) (gA : Option Addr) (gc : Nat) (zs : List Int) (m : Rm) (w : World) (h : StAt w g s gA gc zs) (hm : RG w m.A m.groups) (hml : m.groups.length ≤ 100000000) :
    Calls Try.prog 56 #[.agg m.cells.toArray, .pointer (some ⟨g, 0, none⟩)] w fun e w' => e = .returned (.bool (strP s zs m)) ∧ Below w.heap.size w w' := by
  obtain ⟨mk, mt, mA, mc, mg, mb⟩ := m
  unfold strP Rm.cells
  dsimp only at hm hml ⊢
  have h1a : ∀ ob, (w.alloc ob).cell? ⟨g, 1, none⟩ = some (.string (strB s)) := fun ob => Lib.cell?_alloc_some ob h.c1
  have h2a : ∀ ob, (w.alloc ob).cell? ⟨g, 2, none⟩ = some (.slice gA zs.length gc) := fun ob => Lib.cell?_alloc_some ob h.c2
  have HR := Lib.hid h.r
  have HM := Lib.hid hm
  clear h hm
  by_cases hk : mk = 3
  · subst hk
    by_cases hs : mt = s
    · subst hs
      have HZF := Lib.hid (show (!decide (mg = zs)) = decide ((3 : Int) = 3 ∧ mt = mt ∧ mg ≠ zs) by by_cases h : mg = zs <;> simp [h])
      rw [← HZF.out]
      generalize strB mt = z at *
      generalize strB mb = y
      obtain ⟨q, hq⟩ : ∃ q, decide (mg = zs) = q := ⟨_, rfl⟩
      rw [hq]
      have HQ := Lib.hid hq
      clear hq HZF
      go_enter Try.func56, Try.ntmps56
      go_wp2_with fail
      refine (equal_any mA gA mg.length zs.length mc gc mg zs _ rfl rfl hml (HM.out.below ((Below.refl _ _).alloc (Nat.le_refl _) _)) (HR.out.below ((Below.refl _ _).alloc (Nat.le_refl _) _))).mono ?_
      rw [HQ.out]
      rintro e w1 ⟨rfl, hb⟩
      have HB := Lib.hid (below_below ((Below.refl _ _).alloc (Nat.le_refl _) _) (by simp) hb)
      clear hb
      go_wp2_with fail
      go_ret
      exact ⟨rfl, HB.out⟩
    · have HZF := Lib.hid (show ((strB mt).toList == (strB s).toList) = false by rw [ByteArray.toList_eq, ByteArray.toList_eq, strB_toList, strB_toList]; simpa using hs)
      have hd : decide ((3 : Int) = 3 ∧ mt = s ∧ mg ≠ zs) = false := by simp [hs]
      rw [hd]
      generalize strB mt = z1 at *
      generalize strB s = z2 at *
      generalize strB mb = y
      have hzf := HZF.out
      clear hd hs
      go_enter Try.func56, Try.ntmps56
      go_wp2_with fail
      go_ret
      exact ⟨rfl, (Below.refl _ _).alloc (Nat.le_refl _) _⟩
  · have hd : decide (mk = 3 ∧ mt = s ∧ mg ≠ zs) = false := by simp [hk]
    rw [hd]
    have hk1 : (mk == 3) = false := by simpa using hk
    generalize strB mt = z1 at *
    generalize strB s = z2 at *
    generalize strB mb = y
    clear hd hk
    go_enter Try.func56, Try.ntmps56
    go_wp2_with fail
    go_ret
    exact ⟨rfl, (Below.refl _ _).alloc (Nat.le_refl _) _⟩

set_option maxHeartbeats 4000000 in
/-- Whether a row of records holds one that passes the test of strange. -/
theorem indexSt_any (A : Option Addr) (n c : Nat) (l : List Rm) (g : Nat) (s : List UInt8) (gA : Option Addr) (gc : Nat) (zs : List Int) (w : World) (hl : l.length = n) (hn : n ≤ 100000000) (hr : RC w A (rmc l)) (h1 : StAt w g s gA gc zs) (h2 : ∀ m ∈ l, RG w m.A m.groups ∧ m.groups.length ≤ 100000000) :
    Calls Try.prog 88 #[.slice A n c, .func (.func 56) #[] #[.pointer (some ⟨g, 0, none⟩)]] w fun e w' => (∃ r : Int, e = .returned (.int .i64 r) ∧ (0 ≤ r ↔ l.any (strP s zs) = true)) ∧ Below w.heap.size w w' := by
  subst hl
  have HR := Lib.hid hr
  have H1 := Lib.hid h1
  have H2 := Lib.hid h2
  clear hr h1 h2
  go_enter Try.func88, Try.ntmps88
  go_wp2_with fail
  go_loopg [8] l.length (fun gk s8 wr => ∃ i : Nat, i ≤ l.length ∧ gk = l.length - i ∧ s8 = .int .i64 (i : Int) ∧ (∀ j (h : j < l.length), j < i → strP s zs l[j] = false) ∧ Below w.heap.size w wr)
  case atStart => exact ⟨0, Nat.zero_le _, by omega, rfl, fun j _ hj => absurd hj (Nat.not_lt_zero _), Below.refl _ _⟩
  case round =>
    obtain ⟨i, hi, hk, rfl, hz, hb⟩ := hrel
    have HK := Lib.hid hk
    have HZ := Lib.hid hz
    have HB := Lib.hid hb
    clear hk hz hb
    by_cases hlt : i < l.length
    · obtain ⟨b, o, rfl, hc⟩ := RC.part HR.out (by rw [rmc_length]; omega)
      have hg := rmc_get l i hlt
      have q0 := cell_below HB.out (hc _ _ hg.1)
      have q1 := cell_below HB.out (hc _ _ hg.2.1)
      have q2 := cell_below HB.out (hc _ _ hg.2.2.1)
      have q3 := cell_below HB.out (hc _ _ hg.2.2.2)
      rw [← Nat.add_assoc] at q1 q2 q3
      obtain ⟨m, em⟩ : ∃ m, m = l[i] := ⟨_, rfl⟩
      rw [← em] at q0 q1 q2 q3
      have EM := Lib.hid em
      have HLT := Lib.hid hlt
      have i0 : (0 : Int) ≤ (i : Int) := by omega
      have i1 : (i : Int) < (l.length : Int) := by omega
      obtain ⟨mk, mt, mA, mc, mg, mb⟩ := m
      dsimp only at q0 q1 q2 q3
      obtain ⟨z1, hz1⟩ : ∃ z1, z1 = strB mt := ⟨_, rfl⟩
      obtain ⟨z2, hz2⟩ : ∃ z2, z2 = strB mb := ⟨_, rfl⟩
      rw [← hz1] at q1
      rw [← hz2] at q3
      have HQ := Lib.hid (show (⟨mk, mt, mA, mc, mg, mb⟩ : Rm).cells.toArray = #[.int .i64 mk, .string z1, .slice mA mg.length mc, .string z2] by rw [hz1, hz2]; rfl)
      clear hc hg em hi hz1 hz2
      go_wp2_with fail
      rw [← HQ.out]
      refine (str1_any g s gA gc zs ⟨mk, mt, mA, mc, mg, mb⟩ wr (H1.out.below HB.out) (by have h := H2.out _ (List.getElem_mem HLT.out); rw [← EM.out] at h; exact h.1.below HB.out) (by have h := H2.out _ (List.getElem_mem HLT.out); rw [← EM.out] at h; exact h.2)).mono ?_
      obtain ⟨q, hq⟩ : ∃ q, strP s zs ⟨mk, mt, mA, mc, mg, mb⟩ = q := ⟨_, rfl⟩
      rw [hq]
      rintro e w1 ⟨rfl, hb1⟩
      have HB1 := Lib.hid (below_below HB.out HB.out.size hb1)
      have HQ2 := Lib.hid (show strP s zs (l[i]'HLT.out) = q by rw [← EM.out]; exact hq)
      rw [HQ.out]
      clear hb1 hq q0 q1 q2 q3
      cases q with
      | true =>
        go_wp2_with fail
        go_ret
        exact ⟨⟨_, rfl, fun _ => List.any_eq_true.2 ⟨_, List.getElem_mem HLT.out, HQ2.out⟩, fun _ => by omega⟩, HB1.out⟩
      | false =>
        go_wp2_with fail
        go_roundg (l.length - (i + 1))
        case measure => have := HK.out; have := HLT.out; omega
        case rel =>
          refine ⟨i + 1, HLT.out, rfl, by go_num, fun j hj hji => ?_, HB1.out⟩
          by_cases h : j = i
          · subst h
            exact HQ2.out
          · exact HZ.out j hj (by omega)
    · obtain rfl : i = l.length := by omega
      go_wp2_with fail
      go_ret
      refine ⟨⟨_, rfl, fun h => absurd h (by omega), fun h => ?_⟩, HB.out⟩
      obtain ⟨m, hm, e⟩ := List.any_eq_true.1 h
      obtain ⟨j, hj, e2⟩ := List.getElem_of_mem hm
      have := HZ.out j hj hj
      rw [e2, e] at this
      cases this

set_option maxHeartbeats 1000000 in
theorem containsSt_any (A : Option Addr) (n c : Nat) (l : List Rm) (g : Nat) (s : List UInt8) (gA : Option Addr) (gc : Nat) (zs : List Int) (w : World) (hl : l.length = n) (hn : n ≤ 100000000) (hr : RC w A (rmc l)) (h1 : StAt w g s gA gc zs) (h2 : ∀ m ∈ l, RG w m.A m.groups ∧ m.groups.length ≤ 100000000) :
    Calls Try.prog 76 #[.slice A n c, .func (.func 56) #[] #[.pointer (some ⟨g, 0, none⟩)]] w fun e w' => e = .returned (.bool (l.any (strP s zs))) ∧ Below w.heap.size w w' := by
  have HR := Lib.hid hr
  have H1 := Lib.hid h1
  have H2 := Lib.hid h2
  clear hr h1 h2
  go_enter Try.func76, Try.ntmps76
  go_wp2_with fail
  refine (indexSt_any A n c l g s gA gc zs w hl hn HR.out H1.out H2.out).mono ?_
  rintro e w1 ⟨⟨r, rfl, hr⟩, hb⟩
  have HB := Lib.hid hb
  have HD := Lib.hid (show decide (0 ≤ r) = l.any (strP s zs) by
    cases h : l.any (strP s zs) with
    | true => exact decide_eq_true (hr.2 h)
    | false => exact decide_eq_false fun h2 => by rw [hr.1 h2] at h; cases h)
  clear hr hb
  go_wp2_with fail
  go_ret
  exact ⟨ret_bool HD.out, HB.out⟩
end Go.Proofs.Ytjakhemolecbnaa
end

/-
  The walks of cmp.Compare and cmp.Or at ints.
-/
section
set_option linter.unusedVariables false
set_option linter.unusedSimpArgs false
namespace Go.Proofs.Ytjakhemolecbnaa
open Go.RowKit

def sgnOf (x y : Int) : Int := if x < y then -1 else if y < x then 1 else 0
def orOf (a b c : Int) : Int := if a ≠ 0 then a else if b ≠ 0 then b else c

set_option maxHeartbeats 400000 in
theorem isNaN_any (x : Int) (w : World) : Calls Try.prog 79 #[.int .i64 x] w fun e w' => e = .returned (.bool false) ∧ w = w' := by
  go_enter Try.func79, Try.ntmps79
  go_wp2
  go_ret
  exact ⟨by simp, rfl⟩

set_option maxHeartbeats 1000000 in
theorem compare_any (x y : Int) (w : World) : Calls Try.prog 59 #[.int .i64 x, .int .i64 y] w fun e w' => e = .returned (.int .i64 (sgnOf x y)) ∧ w = w' := by
  unfold sgnOf
  by_cases h1 : x < y
  · rw [if_pos h1]
    go_enter Try.func59, Try.ntmps59
    go_wp2_with fail
    refine (isNaN_any x w).mono ?_
    rintro e w1 ⟨rfl, rfl⟩
    go_wp2_with fail
    refine (isNaN_any y w).mono ?_
    rintro e w1 ⟨rfl, rfl⟩
    go_wp2_with fail
    go_ret
    exact ⟨rfl, rfl⟩
  · rw [if_neg h1]
    by_cases h2 : y < x
    · rw [if_pos h2]
      go_enter Try.func59, Try.ntmps59
      go_wp2_with fail
      refine (isNaN_any x w).mono ?_
      rintro e w1 ⟨rfl, rfl⟩
      go_wp2_with fail
      refine (isNaN_any y w).mono ?_
      rintro e w1 ⟨rfl, rfl⟩
      go_wp2_with fail
      go_ret
      exact ⟨rfl, rfl⟩
    · rw [if_neg h2]
      go_enter Try.func59, Try.ntmps59
      go_wp2_with fail
      refine (isNaN_any x w).mono ?_
      rintro e w1 ⟨rfl, rfl⟩
      go_wp2_with fail
      refine (isNaN_any y w).mono ?_
      rintro e w1 ⟨rfl, rfl⟩
      go_wp2_with fail
      go_ret
      exact ⟨rfl, rfl⟩

set_option maxRecDepth 100000 in
set_option maxHeartbeats 2000000 in
theorem or_any (g : Nat) (a b c : Int) (w : World) (h0 : w.cell? ⟨g, 0, none⟩ = some (.int .i64 a)) (h1 : w.cell? ⟨g, 1, none⟩ = some (.int .i64 b)) (h2 : w.cell? ⟨g, 2, none⟩ = some (.int .i64 c)) :
    Calls Try.prog 58 #[.slice (some ⟨g, 0, none⟩) 3 3] w fun e w' => e = .returned (.int .i64 (orOf a b c)) ∧ w = w' := by
  have HO := Lib.hid (show ∀ i : Nat, i < 3 → ∃ z, w.cell? ⟨g, i, none⟩ = some (.int .i64 z) ∧ [a, b, c][i]? = some z from fun i hi => by
    match i, hi with
    | 0, _ => exact ⟨a, h0, rfl⟩
    | 1, _ => exact ⟨b, h1, rfl⟩
    | 2, _ => exact ⟨c, h2, rfl⟩)
  clear h0 h1 h2
  go_enter Try.func58, Try.ntmps58
  go_wp2_with fail
  go_loopg [8] 3 (fun k s8 wr => ∃ i : Nat, i ≤ 3 ∧ k = 3 - i ∧ s8 = .int .i64 (i : Int) ∧ (∀ j z, j < i → [a, b, c][j]? = some z → z = 0) ∧ wr = w)
  case atStart => exact ⟨0, by omega, by omega, rfl, fun j z hj => absurd hj (Nat.not_lt_zero _), rfl⟩
  case round =>
    obtain ⟨i, hi, hk, rfl, hz, rfl⟩ := hrel
    have HK := Lib.hid hk
    have HZ := Lib.hid hz
    clear hk hz
    by_cases hlt : i < 3
    · obtain ⟨z, hc, hg⟩ := HO.out i hlt
      have HG := Lib.hid hg
      have HLT := Lib.hid hlt
      clear hg
      have i0 : (0 : Int) ≤ (i : Int) := by omega
      have i1 : (i : Int) < 3 := by omega
      by_cases hz0 : z = 0
      · subst hz0
        go_wp2_with fail
        go_roundg (3 - (i + 1))
        case measure => have := HK.out; have := HLT.out; omega
        case rel =>
          refine ⟨i + 1, HLT.out, rfl, by go_num, fun j z hj e => ?_, rfl⟩
          by_cases hji : j = i
          · rw [hji, HG.out] at e
            exact (Option.some.inj e).symm
          · exact HZ.out j z (by omega) e
      · have hne : (z != 0) = true := by simpa using hz0
        go_wp2_with fail
        go_ret
        refine ⟨ret_int ?_, rfl⟩
        have h := HZ.out
        have hg := HG.out
        unfold orOf
        match i, HLT.out with
        | 0, _ =>
          have e : a = z := by simpa using hg
          rw [if_pos (by rw [e]; exact hz0), e]
        | 1, _ =>
          have e : b = z := by simpa using hg
          have e0 : a = 0 := h 0 a (by omega) rfl
          rw [if_neg (by simpa using e0), if_pos (by rw [e]; exact hz0), e]
        | 2, _ =>
          have e : c = z := by simpa using hg
          have e0 : a = 0 := h 0 a (by omega) rfl
          have e1 : b = 0 := h 1 b (by omega) rfl
          rw [if_neg (by simpa using e0), if_neg (by simpa using e1), e]
    · obtain rfl : i = 3 := by omega
      go_wp2_with fail
      go_ret
      have h := HZ.out
      refine ⟨ret_int ?_, rfl⟩
      have e0 : a = 0 := h 0 a (by omega) rfl
      have e1 : b = 0 := h 1 b (by omega) rfl
      have e2 : c = 0 := h 2 c (by omega) rfl
      unfold orOf
      rw [e0, e1, e2]
      rfl
end Go.Proofs.Ytjakhemolecbnaa
end

/-
  The verifier: its claims as they lie in memory; ahead and others.
-/
section
set_option linter.unusedVariables false
set_option linter.unusedSimpArgs false
namespace Go.Proofs.Ytjakhemolecbnaa
open Go.RowKit

/-- A claim that was read, as it lies in memory. -/
structure Cm where
  group : Int
  lA : Option Addr
  lc : Nat
  M : List (List UInt8 × List UInt8)
  lt : Bool
  rA : Option Addr
  rc : Nat
  recs : List Rm
  whole : Bool
  en : Int
def Cm.cells (c : Cm) : List Value := [.int .i64 c.group, .slice c.lA c.M.length c.lc, .bool c.lt, .slice c.rA c.recs.length c.rc, .bool c.whole, .int .i64 c.en]
def cmc (l : List Cm) : List Value := l.flatMap Cm.cells
theorem cmc_length (l : List Cm) : (cmc l).length = l.length * 6 := by
  induction l with
  | nil => rfl
  | cons m l ih =>
    have e : cmc (m :: l) = m.cells ++ cmc l := rfl
    rw [e, List.length_append, ih, List.length_cons]
    show 6 + l.length * 6 = _
    omega
theorem cmc_append (l m : List Cm) : cmc (l ++ m) = cmc l ++ cmc m := by simp [cmc]
theorem cmc_get (l : List Cm) (i : Nat) (c : Cm) (h : l[i]? = some c) (j : Nat) (hj : j < 6) : (cmc l)[i * 6 + j]? = c.cells[j]? := by
  obtain ⟨hi, rfl⟩ := List.getElem?_eq_some_iff.1 h
  have h1 : l = l.take i ++ l[i] :: l.drop (i + 1) := by
    conv => lhs; rw [← List.take_append_drop i l, List.drop_eq_getElem_cons hi]
  have h2 : cmc l = cmc (l.take i) ++ (l[i].cells ++ cmc (l.drop (i + 1))) := by
    refine (congrArg cmc h1).trans ?_
    rw [cmc_append]
    rfl
  have h3 : i * 6 = (cmc (l.take i)).length := by rw [cmc_length, List.length_take]; omega
  rw [h2, List.getElem?_append_right (by omega), ← h3, Nat.add_sub_cancel_left, List.getElem?_append_left (by show j < 6; exact hj)]
theorem cmc_one (l : List Cm) : ∀ u ∈ cmc l, u.oneCell' = true := by
  intro u hu
  simp only [cmc, List.mem_flatMap] at hu
  obtain ⟨m, _, hm⟩ := hu
  simp only [Cm.cells, List.mem_cons, List.not_mem_nil, or_false] at hm
  rcases hm with rfl | rfl | rfl | rfl | rfl | rfl <;> rfl

/-- The least fault of two. -/
def bestOf (b f : Int × Int × Int) : Int × Int × Int := if b.1 = 0 ∨ orOf (sgnOf f.1 b.1) (sgnOf f.2.1 b.2.1) (sgnOf f.2.2 b.2.2) < 0 then f else b
/-- A verifier at p. -/
def VAt (w : World) (p : Nat) (vl : Value) (b : Int × Int × Int) : Prop := w.heap[p]? = some (.cells #[vl, .int .i64 b.1, .int .i64 b.2.1, .int .i64 b.2.2] 70 (0, 0))
/-- A row that reads so, none of it in block p. -/
structure RCo (w : World) (p : Nat) (A : Option Addr) (l : List Value) : Prop where
  r : RC w A l
  off : 0 < l.length → ∀ ad, A = some ad → ad.block ≠ p
theorem RCo.below {w w' : World} {p : Nat} {A : Option Addr} {l : List Value} (h : RCo w p A l) (hb : Below w.heap.size w w') : RCo w' p A l := ⟨h.r.below hb, h.off⟩
theorem RCo.turn {w w' : World} {p : Nat} {A : Option Addr} {l : List Value} (h : RCo w p A l) (u : Upd (fun k => k = p) w w') : RCo w' p A l := ⟨h.r.upd u h.off, h.off⟩
structure CF (w : World) (p : Nat) (c : Cm) : Prop where
  rl : RCo w p c.lA (lv c.M)
  rr : RCo w p c.rA (rmc c.recs)
  rg : ∀ m ∈ c.recs, RCo w p m.A (m.groups.map (Value.int .i64)) ∧ m.groups.length ≤ 100000000
  hh : ∀ x ∈ c.M, x.2.length = 32
  ht : ∀ x ∈ c.M, x.1.length ≤ 4000
  lM : c.M.length ≤ 5000
  lR : c.recs.length ≤ 5000
  cr : c.recs.length ≤ c.rc
theorem CF.below {w w' : World} {p : Nat} {c : Cm} (h : CF w p c) (hb : Below w.heap.size w w') : CF w' p c := ⟨h.rl.below hb, h.rr.below hb, fun m hm => ⟨(h.rg m hm).1.below hb, (h.rg m hm).2⟩, h.hh, h.ht, h.lM, h.lR, h.cr⟩
theorem CF.turn {w w' : World} {p : Nat} {c : Cm} (h : CF w p c) (u : Upd (fun k => k = p) w w') : CF w' p c := ⟨h.rl.turn u, h.rr.turn u, fun m hm => ⟨(h.rg m hm).1.turn u, (h.rg m hm).2⟩, h.hh, h.ht, h.lM, h.lR, h.cr⟩
/-- A verifier with its claims. -/
structure VF (w : World) (p : Nat) (vA : Option Addr) (vc : Nat) (cs : List Cm) (b : Int × Int × Int) : Prop where
  at_ : VAt w p (.slice vA cs.length vc) b
  rv : RCo w p vA (cmc cs)
  cf : ∀ c ∈ cs, CF w p c
  len : cs.length ≤ 100000
namespace VF
variable {w w' : World} {p : Nat} {vA : Option Addr} {vc : Nat} {cs : List Cm} {b b' : Int × Int × Int}
theorem lt (h : VF w p vA vc cs b) : p < w.heap.size := (Array.getElem?_eq_some_iff.1 h.at_).1
theorem c0 (h : VF w p vA vc cs b) : w.cell? ⟨p, 0, none⟩ = some (.slice vA cs.length vc) := by rw [cell_of_row w p 0 _ _ _ h.at_]; rfl
theorem below (h : VF w p vA vc cs b) (hb : Below w.heap.size w w') : VF w' p vA vc cs b := ⟨(hb.block p h.lt).trans h.at_, h.rv.below hb, fun c hc => (h.cf c hc).below hb, h.len⟩
theorem turn (h : VF w p vA vc cs b) (u : Upd (fun k => k = p) w w') (ha : VAt w' p (.slice vA cs.length vc) b') : VF w' p vA vc cs b' := ⟨ha, h.rv.turn u, fun c hc => (h.cf c hc).turn u, h.len⟩
/-- The cells of a claim. -/
theorem part (h : VF w p vA vc cs b) {i : Nat} {c : Cm} (hc : cs[i]? = some c) : ∃ bv ov, vA = some ⟨bv, ov, none⟩ ∧ ∀ W, Below w.heap.size w W → W.cell? ⟨bv, ov + i * 6, none⟩ = some (.int .i64 c.group) ∧ W.cell? ⟨bv, ov + i * 6 + 1, none⟩ = some (.slice c.lA c.M.length c.lc) ∧ W.cell? ⟨bv, ov + i * 6 + 2, none⟩ = some (.bool c.lt) ∧ W.cell? ⟨bv, ov + i * 6 + 3, none⟩ = some (.slice c.rA c.recs.length c.rc) ∧ W.cell? ⟨bv, ov + i * 6 + 4, none⟩ = some (.bool c.whole) ∧ W.cell? ⟨bv, ov + i * 6 + 5, none⟩ = some (.int .i64 c.en) := by
  have hi := (List.getElem?_eq_some_iff.1 hc).1
  obtain ⟨bv, ov, e, hcell⟩ := RC.part h.rv.r (by rw [cmc_length]; omega)
  refine ⟨bv, ov, e, fun W hW => ?_⟩
  have key : ∀ j u, j < 6 → c.cells[j]? = some u → W.cell? ⟨bv, ov + i * 6 + j, none⟩ = some u := fun j u hj hu => by
    rw [Nat.add_assoc]
    exact cell_below hW (hcell _ _ ((cmc_get cs i c hc j hj).trans hu))
  exact ⟨key 0 _ (by omega) rfl, key 1 _ (by omega) rfl, key 2 _ (by omega) rfl, key 3 _ (by omega) rfl, key 4 _ (by omega) rfl, key 5 _ (by omega) rfl⟩
end VF
theorem OfB {w w' : World} {g : Nat} {k : Int} {s : List UInt8} (h : w.cell? ⟨g, 0, none⟩ = some (.int .i64 k) ∧ w.cell? ⟨g + 1, 0, none⟩ = some (.string (strB s))) (hb : Below w.heap.size w w') : w'.cell? ⟨g, 0, none⟩ = some (.int .i64 k) ∧ w'.cell? ⟨g + 1, 0, none⟩ = some (.string (strB s)) := ⟨cell_below hb h.1, cell_below hb h.2⟩

set_option maxHeartbeats 2000000 in
theorem ahead_any (p : Nat) (vA : Option Addr) (vc : Nat) (cs : List Cm) (b : Int × Int × Int) (i at' : Nat) (c : Cm) (g : Nat) (k : Int) (s : List UInt8) (w : World) (h : VF w p vA vc cs b) (hc : cs[i]? = some c) (ha : at' ≤ c.recs.length)
    (hf : w.cell? ⟨g, 0, none⟩ = some (.int .i64 k) ∧ w.cell? ⟨g + 1, 0, none⟩ = some (.string (strB s))) :
    Calls Try.prog 52 #[.pointer (some ⟨p, 0, none⟩), .int .i64 (i : Int), .int .i64 (at' : Int), .func (.func 77) #[] #[.pointer (some ⟨g, 0, none⟩), .pointer (some ⟨g + 1, 0, none⟩)]] w fun e w' => e = .returned (.bool ((c.recs.take at').any (ofP k s))) ∧ Below w.heap.size w w' := by
  obtain ⟨bv, ov, rfl, hp⟩ := h.part hc
  obtain ⟨q0, q1, q2, q3, q4, q5⟩ := hp w (Below.refl _ _)
  have hcf := h.cf c (List.mem_of_getElem? hc)
  have hi := (List.getElem?_eq_some_iff.1 hc).1
  have k0 := h.c0
  have hln := h.len
  have i0 : (0 : Int) ≤ (i : Int) := by omega
  have i1 : (i : Int) < (cs.length : Int) := by omega
  have hcr := hcf.cr
  have a0 : (0 : Int) ≤ (at' : Int) := by omega
  have a1 : (at' : Int) ≤ (c.rc : Int) := by omega
  have HCF := Lib.hid hcf
  have HF := Lib.hid hf
  have HA := Lib.hid ha
  have HX := Lib.hid (show RC w c.rA (rmc (c.recs.take at')) by
    rw [← rmc_take _ _ ha]
    intro h0
    rw [List.length_take] at h0
    obtain ⟨ad, e, hh⟩ := hcf.rr.r (by omega)
    exact ⟨ad, e, fun j u hj => hh j u (by rw [List.getElem?_take] at hj; split at hj; exact hj; cases hj)⟩)
  have hlt : (c.recs.take at').length = at' := by rw [List.length_take]; omega
  have HLT := Lib.hid hlt
  have HA5 := Lib.hid (show at' ≤ 5000 from Nat.le_trans ha hcf.lR)
  generalize c.recs.length = nr at *
  generalize c.rA = rA at *
  generalize c.rc = rc at *
  generalize c.recs.take at' = l at *
  clear h hp hc hcf hf ha hlt hcr hi q0 q1 q2 q4 q5
  go_enter Try.func52, Try.ntmps52
  go_wp2_with fail
  refine (containsOf_any rA at' rc l g k s w HLT.out (by have := HA5.out; omega) HX.out HF.out.1 HF.out.2).mono ?_
  obtain ⟨q, hq⟩ : ∃ q, l.any (ofP k s) = q := ⟨_, rfl⟩
  rw [hq]
  have HQ := Lib.hid hq
  rintro e w1 ⟨rfl, hb⟩
  have HB := Lib.hid hb
  clear hb hq
  go_wp2_with fail
  go_ret
  exact ⟨ret_bool HQ.out.symm, HB.out⟩

/-- The test of one claim among the others. -/
def tst (cs : List Cm) (n : Int) (P : Rm → Bool) (j : Nat) : Bool := match cs[j]? with | some c => decide ((j : Int) ≠ n) && c.whole && c.recs.any P | none => false
def othersS (cs : List Cm) (n : Int) (P : Rm → Bool) : Bool := (List.range cs.length).any (tst cs n P)

set_option maxHeartbeats 4000000 in
theorem othersOf_any (p : Nat) (vA : Option Addr) (vc : Nat) (cs : List Cm) (b : Int × Int × Int) (n : Int) (g : Nat) (k : Int) (s : List UInt8) (w : World) (h : VF w p vA vc cs b)
    (hf : w.cell? ⟨g, 0, none⟩ = some (.int .i64 k) ∧ w.cell? ⟨g + 1, 0, none⟩ = some (.string (strB s))) :
    Calls Try.prog 54 #[.pointer (some ⟨p, 0, none⟩), .int .i64 n, .func (.func 77) #[] #[.pointer (some ⟨g, 0, none⟩), .pointer (some ⟨g + 1, 0, none⟩)]] w fun e w' => e = .returned (.bool (othersS cs n (ofP k s))) ∧ Below w.heap.size w w' := by
  have HV := Lib.hid h
  have HF := Lib.hid hf
  have k0 := h.c0
  have hln := h.len
  obtain ⟨R, eR⟩ : ∃ R, R = othersS cs n (ofP k s) := ⟨_, rfl⟩
  rw [← eR]
  have ER := Lib.hid eR
  clear h hf eR
  go_enter Try.func54, Try.ntmps54
  go_wp2_with fail
  go_loopg [14] cs.length (fun gk s14 wr => ∃ i : Nat, i ≤ cs.length ∧ gk = cs.length - i ∧ s14 = .int .i64 (i : Int) ∧ (∀ j, j < i → tst cs n (ofP k s) j = false) ∧ Below w.heap.size w wr)
  case atStart => exact ⟨0, Nat.zero_le _, by omega, rfl, fun j hj => absurd hj (Nat.not_lt_zero _), Below.refl _ _⟩
  case round =>
    obtain ⟨i, hi, hk, rfl, hz, hb⟩ := hrel
    have HK := Lib.hid hk
    have HZ := Lib.hid hz
    have HB := Lib.hid hb
    clear hk hz hb
    by_cases hlt : i < cs.length
    · obtain ⟨c, hc⟩ : ∃ c, cs[i]? = some c := ⟨_, List.getElem?_eq_getElem hlt⟩
      obtain ⟨bv, ov, rfl, hp⟩ := HV.out.part hc
      obtain ⟨q0, q1, q2, q3, q4, q5⟩ := hp wr HB.out
      have hcf := (HV.out.cf c (List.mem_of_getElem? hc)).below HB.out
      have HT := Lib.hid (show tst cs n (ofP k s) i = (decide ((i : Int) ≠ n) && c.whole && c.recs.any (ofP k s)) by unfold tst; rw [hc])
      have HRR := Lib.hid hcf.rr.r
      have HRG := Lib.hid (show ∀ m ∈ c.recs, RG wr m.A m.groups ∧ m.groups.length ≤ 100000000 from fun m hm => ⟨(hcf.rg m hm).1.r, (hcf.rg m hm).2⟩)
      have HLR := Lib.hid hcf.lR
      have HLT := Lib.hid hlt
      have i0 : (0 : Int) ≤ (i : Int) := by omega
      have i1 : (i : Int) < (cs.length : Int) := by omega
      generalize c.M.length = nM at *
      generalize c.whole = wh at *
      generalize c.recs = l at *
      generalize c.group = gr at *
      generalize c.lA = lA at *
      generalize c.lc = lc at *
      generalize c.lt = lt at *
      generalize c.rA = rA at *
      generalize c.rc = rc at *
      generalize c.en = en at *
      have key : ∀ W, Below w.heap.size w W → tst cs n (ofP k s) i = false → ∃ i' : Nat, i' ≤ cs.length ∧ cs.length - (i + 1) = cs.length - i' ∧ (Value.int .i64 ((i + 1 : Nat) : Int)) = .int .i64 (i' : Int) ∧ (∀ j, j < i' → tst cs n (ofP k s) j = false) ∧ Below w.heap.size w W := fun W hW ht => ⟨i + 1, HLT.out, rfl, rfl, fun j hj => by
        by_cases h : j = i
        · rw [h]; exact ht
        · exact HZ.out j (by omega), hW⟩
      have KEY := Lib.hid key
      clear hc hp hcf hi hlt key
      by_cases hin : (i : Int) = n
      · have hin1 : ((i : Int) != n) = false := by simpa using hin
        have ht : tst cs n (ofP k s) i = false := by rw [HT.out, hin]; simp
        have HTF := Lib.hid ht
        clear hin ht
        go_wp2_with fail
        go_roundg (cs.length - (i + 1))
        case measure => have := HK.out; have := HLT.out; omega
        case rel =>
          obtain ⟨i', h1, h2, h3, h4, h5⟩ := KEY.out _ (HB.out.alloc HB.out.size _) HTF.out
          exact ⟨i', h1, h2, Eq.trans (by go_num) h3, h4, h5⟩
      · have hin1 : ((i : Int) != n) = true := by simpa using hin
        have HIN := Lib.hid hin
        clear hin
        cases wh with
        | false =>
          have ht : tst cs n (ofP k s) i = false := by rw [HT.out]; simp
          have HTF := Lib.hid ht
          clear ht
          go_wp2_with fail
          go_roundg (cs.length - (i + 1))
          case measure => have := HK.out; have := HLT.out; omega
          case rel =>
            obtain ⟨i', h1, h2, h3, h4, h5⟩ := KEY.out _ (HB.out.alloc HB.out.size _) HTF.out
            exact ⟨i', h1, h2, Eq.trans (by go_num) h3, h4, h5⟩
        | true =>
          obtain ⟨nl, hnl⟩ : ∃ nl, nl = l.length := ⟨_, rfl⟩
          rw [← hnl] at q3
          have HNL := Lib.hid hnl
          clear hnl
          go_wp2_with fail
          refine (containsOf_any rA nl rc l g k s _ HNL.out.symm (by have := HNL.out; have := HLR.out; omega) (HRR.out.below ((Below.refl _ _).alloc (Nat.le_refl _) _)) (OfB HF.out (HB.out.alloc HB.out.size _)).1 (OfB HF.out (HB.out.alloc HB.out.size _)).2).mono ?_
          obtain ⟨qq, hqq⟩ : ∃ qq, l.any (ofP k s) = qq := ⟨_, rfl⟩
          rw [hqq]
          rintro e w2 ⟨rfl, hb2⟩
          have HB2 := Lib.hid (below_below (HB.out.alloc HB.out.size _) (HB.out.alloc HB.out.size _).size hb2)
          have HTQ := Lib.hid (show tst cs n (ofP k s) i = qq by rw [HT.out, hqq]; simp [HIN.out])
          clear hb2 hqq
          cases qq with
          | true =>
            go_wp2_with fail
            go_ret
            exact ⟨ret_bool (by rw [ER.out]; exact (List.any_eq_true.2 ⟨i, List.mem_range.2 HLT.out, HTQ.out⟩).symm), HB2.out⟩
          | false =>
            go_wp2_with fail
            go_roundg (cs.length - (i + 1))
            case measure => have := HK.out; have := HLT.out; omega
            case rel =>
              obtain ⟨i', h1, h2, h3, h4, h5⟩ := KEY.out _ HB2.out HTQ.out
              exact ⟨i', h1, h2, Eq.trans (by go_num) h3, h4, h5⟩
    · obtain rfl : i = cs.length := by omega
      go_wp2_with fail
      go_ret
      refine ⟨ret_bool ?_, HB.out⟩
      rw [ER.out]
      unfold othersS
      symm
      rw [List.any_eq_false]
      intro j hj
      rw [HZ.out j (List.mem_range.1 hj)]
      decide

set_option maxHeartbeats 4000000 in
theorem othersSt_any (p : Nat) (vA : Option Addr) (vc : Nat) (cs : List Cm) (b : Int × Int × Int) (n : Int) (g : Nat) (s : List UInt8) (gA : Option Addr) (gc : Nat) (zs : List Int) (w : World) (h : VF w p vA vc cs b)
    (hf : StAt w g s gA gc zs) :
    Calls Try.prog 54 #[.pointer (some ⟨p, 0, none⟩), .int .i64 n, .func (.func 56) #[] #[.pointer (some ⟨g, 0, none⟩)]] w fun e w' => e = .returned (.bool (othersS cs n (strP s zs))) ∧ Below w.heap.size w w' := by
  have HV := Lib.hid h
  have HF := Lib.hid hf
  have k0 := h.c0
  have hln := h.len
  obtain ⟨R, eR⟩ : ∃ R, R = othersS cs n (strP s zs) := ⟨_, rfl⟩
  rw [← eR]
  have ER := Lib.hid eR
  clear h hf eR
  go_enter Try.func54, Try.ntmps54
  go_wp2_with fail
  go_loopg [14] cs.length (fun gk s14 wr => ∃ i : Nat, i ≤ cs.length ∧ gk = cs.length - i ∧ s14 = .int .i64 (i : Int) ∧ (∀ j, j < i → tst cs n (strP s zs) j = false) ∧ Below w.heap.size w wr)
  case atStart => exact ⟨0, Nat.zero_le _, by omega, rfl, fun j hj => absurd hj (Nat.not_lt_zero _), Below.refl _ _⟩
  case round =>
    obtain ⟨i, hi, hk, rfl, hz, hb⟩ := hrel
    have HK := Lib.hid hk
    have HZ := Lib.hid hz
    have HB := Lib.hid hb
    clear hk hz hb
    by_cases hlt : i < cs.length
    · obtain ⟨c, hc⟩ : ∃ c, cs[i]? = some c := ⟨_, List.getElem?_eq_getElem hlt⟩
      obtain ⟨bv, ov, rfl, hp⟩ := HV.out.part hc
      obtain ⟨q0, q1, q2, q3, q4, q5⟩ := hp wr HB.out
      have hcf := (HV.out.cf c (List.mem_of_getElem? hc)).below HB.out
      have HT := Lib.hid (show tst cs n (strP s zs) i = (decide ((i : Int) ≠ n) && c.whole && c.recs.any (strP s zs)) by unfold tst; rw [hc])
      have HRR := Lib.hid hcf.rr.r
      have HRG := Lib.hid (show ∀ m ∈ c.recs, RG wr m.A m.groups ∧ m.groups.length ≤ 100000000 from fun m hm => ⟨(hcf.rg m hm).1.r, (hcf.rg m hm).2⟩)
      have HLR := Lib.hid hcf.lR
      have HLT := Lib.hid hlt
      have i0 : (0 : Int) ≤ (i : Int) := by omega
      have i1 : (i : Int) < (cs.length : Int) := by omega
      generalize c.M.length = nM at *
      generalize c.whole = wh at *
      generalize c.recs = l at *
      generalize c.group = gr at *
      generalize c.lA = lA at *
      generalize c.lc = lc at *
      generalize c.lt = lt at *
      generalize c.rA = rA at *
      generalize c.rc = rc at *
      generalize c.en = en at *
      have key : ∀ W, Below w.heap.size w W → tst cs n (strP s zs) i = false → ∃ i' : Nat, i' ≤ cs.length ∧ cs.length - (i + 1) = cs.length - i' ∧ (Value.int .i64 ((i + 1 : Nat) : Int)) = .int .i64 (i' : Int) ∧ (∀ j, j < i' → tst cs n (strP s zs) j = false) ∧ Below w.heap.size w W := fun W hW ht => ⟨i + 1, HLT.out, rfl, rfl, fun j hj => by
        by_cases h : j = i
        · rw [h]; exact ht
        · exact HZ.out j (by omega), hW⟩
      have KEY := Lib.hid key
      clear hc hp hcf hi hlt key
      by_cases hin : (i : Int) = n
      · have hin1 : ((i : Int) != n) = false := by simpa using hin
        have ht : tst cs n (strP s zs) i = false := by rw [HT.out, hin]; simp
        have HTF := Lib.hid ht
        clear hin ht
        go_wp2_with fail
        go_roundg (cs.length - (i + 1))
        case measure => have := HK.out; have := HLT.out; omega
        case rel =>
          obtain ⟨i', h1, h2, h3, h4, h5⟩ := KEY.out _ (HB.out.alloc HB.out.size _) HTF.out
          exact ⟨i', h1, h2, Eq.trans (by go_num) h3, h4, h5⟩
      · have hin1 : ((i : Int) != n) = true := by simpa using hin
        have HIN := Lib.hid hin
        clear hin
        cases wh with
        | false =>
          have ht : tst cs n (strP s zs) i = false := by rw [HT.out]; simp
          have HTF := Lib.hid ht
          clear ht
          go_wp2_with fail
          go_roundg (cs.length - (i + 1))
          case measure => have := HK.out; have := HLT.out; omega
          case rel =>
            obtain ⟨i', h1, h2, h3, h4, h5⟩ := KEY.out _ (HB.out.alloc HB.out.size _) HTF.out
            exact ⟨i', h1, h2, Eq.trans (by go_num) h3, h4, h5⟩
        | true =>
          obtain ⟨nl, hnl⟩ : ∃ nl, nl = l.length := ⟨_, rfl⟩
          rw [← hnl] at q3
          have HNL := Lib.hid hnl
          clear hnl
          go_wp2_with fail
          refine (containsSt_any rA nl rc l g s gA gc zs _ HNL.out.symm (by have := HNL.out; have := HLR.out; omega) (HRR.out.below ((Below.refl _ _).alloc (Nat.le_refl _) _)) (HF.out.below (HB.out.alloc HB.out.size _)) (fun m hm => ⟨(HRG.out m hm).1.below ((Below.refl _ _).alloc (Nat.le_refl _) _), (HRG.out m hm).2⟩)).mono ?_
          obtain ⟨qq, hqq⟩ : ∃ qq, l.any (strP s zs) = qq := ⟨_, rfl⟩
          rw [hqq]
          rintro e w2 ⟨rfl, hb2⟩
          have HB2 := Lib.hid (below_below (HB.out.alloc HB.out.size _) (HB.out.alloc HB.out.size _).size hb2)
          have HTQ := Lib.hid (show tst cs n (strP s zs) i = qq by rw [HT.out, hqq]; simp [HIN.out])
          clear hb2 hqq
          cases qq with
          | true =>
            go_wp2_with fail
            go_ret
            exact ⟨ret_bool (by rw [ER.out]; exact (List.any_eq_true.2 ⟨i, List.mem_range.2 HLT.out, HTQ.out⟩).symm), HB2.out⟩
          | false =>
            go_wp2_with fail
            go_roundg (cs.length - (i + 1))
            case measure => have := HK.out; have := HLT.out; omega
            case rel =>
              obtain ⟨i', h1, h2, h3, h4, h5⟩ := KEY.out _ HB2.out HTQ.out
              exact ⟨i', h1, h2, Eq.trans (by go_num) h3, h4, h5⟩
    · obtain rfl : i = cs.length := by omega
      go_wp2_with fail
      go_ret
      refine ⟨ret_bool ?_, HB.out⟩
      rw [ER.out]
      unfold othersS
      symm
      rw [List.any_eq_false]
      intro j hj
      rw [HZ.out j (List.mem_range.1 hj)]
      decide
end Go.Proofs.Ytjakhemolecbnaa
end

/-
  The walk of audit's read: a claim.
-/
section
set_option linter.unusedVariables false
set_option linter.unusedSimpArgs false
namespace Go.Proofs.Ytjakhemolecbnaa
open Go.RowKit

theorem runS_ne (l : List UInt8) : ∀ (k : Nat) (s : Rs) (M : Lks) (P : List Nat) (x : Int × Int), runS l k s M P = .inl x → x.1 ≠ 0
  | 0, s, M, P, x, h => by
    unfold runS concS at h
    split at h
    · rename_i h0
      cases h
      exact h0
    · split at h
      · cases h
        show (12 : Int) ≠ 0
        decide
      · cases h
  | k + 1, s, M, P, x, h => by
    unfold runS at h
    split at h
    · rename_i h0
      cases h
      exact h0
    · exact runS_ne l k _ _ _ x h
theorem decS_ne {l : List UInt8} {x : Int × Int} (h : decS l = .inl x) : x.1 ≠ 0 := runS_ne l _ _ _ _ x h

/-- The records of links, as far as they are read; and whether all are. -/
def recStep : Option Rp → List Rp × Bool → List Rp × Bool
  | none, _ => ([], false)
  | some r, q => (r :: q.1, q.2)
def recsOf : Lks → List Rp × Bool
  | [] => ([], true)
  | x :: M => recStep (readS x.1) (recsOf M)
theorem recsOf_cons (x : List UInt8 × List UInt8) (M : Lks) : recsOf (x :: M) = recStep (readS x.1) (recsOf M) := by rw [recsOf]
theorem recsOf_none {M : Lks} {i : Nat} (h : i < M.length) (hr : readS M[i].1 = none) : recsOf (M.drop i) = ([], false) := by
  rw [List.drop_eq_getElem_cons h, recsOf_cons, hr, recStep]
theorem recsOf_some {M : Lks} {i : Nat} {r : Rp} (h : i < M.length) (hr : readS M[i].1 = some r) : recsOf (M.drop i) = (r :: (recsOf (M.drop (i + 1))).1, (recsOf (M.drop (i + 1))).2) := by
  rw [List.drop_eq_getElem_cons h, recsOf_cons, hr, recStep]
theorem readS_groups {l : List UInt8} {r : Rp} (h : readS l = some r) : r.groups.length ≤ 255 := by
  unfold readS at h
  split at h
  · cases h
    simp only [List.length_map, grpS_length]
    have := (byteS l (textS l 4000 (byteS l ⟨0, 0, 0⟩).2).2).1.toNat_lt
    omega
  · cases h
/-- What a claim is read as. -/
def clS (g : Int) (l : List UInt8) (C : Cm) : Prop :=
  C.group = g ∧ match decS l with
  | .inl x => C.M = [] ∧ C.lt = false ∧ C.recs = [] ∧ C.whole = false ∧ C.en = x.2
  | .inr M => C.M = M ∧ C.lt = true ∧ C.recs.map Rm.p = (recsOf M).1 ∧ C.whole = (recsOf M).2 ∧ C.en = if (recsOf M).2 then 0 else ((recsOf M).1.length : Int)
theorem infoRecA : (Try.prog.info? 24).map (fun i => (i.zero, i.size, i.bytes)) = some (some (.agg recZ), 4, 64) := by kernel_rfl
theorem infoCl : (Try.prog.info? 73).map (·.size) = some 6 := by kernel_rfl
def clZ : Array Value := #[.int .i64 0, .slice none 0 0, .bool false, .slice none 0 0, .bool false, .int .i64 0]
def clG (g : Int) : Array Value := #[.int .i64 g, .slice none 0 0, .bool false, .slice none 0 0, .bool false, .int .i64 0]
/-- A claim of six cells: its cells, and what six stores make of it. -/
structure SixAt (w : World) (g : Nat) (v0 v1 v2 v3 v4 v5 : Value) : Prop where
  at_ : w.heap[g]? = some (.cells #[v0, v1, v2, v3, v4, v5] 73 (0, 0))
namespace SixAt
variable {w w' : World} {g : Nat} {v0 v1 v2 v3 v4 v5 : Value}
theorem c (h : SixAt w g v0 v1 v2 v3 v4 v5) : w.cell? ⟨g, 0, none⟩ = some v0 ∧ w.cell? ⟨g, 1, none⟩ = some v1 ∧ w.cell? ⟨g, 2, none⟩ = some v2 ∧ w.cell? ⟨g, 3, none⟩ = some v3 ∧ w.cell? ⟨g, 4, none⟩ = some v4 ∧ w.cell? ⟨g, 5, none⟩ = some v5 :=
  ⟨(cell_of_row w g 0 _ _ _ h.at_).trans rfl, (cell_of_row w g 1 _ _ _ h.at_).trans rfl, (cell_of_row w g 2 _ _ _ h.at_).trans rfl, (cell_of_row w g 3 _ _ _ h.at_).trans rfl, (cell_of_row w g 4 _ _ _ h.at_).trans rfl, (cell_of_row w g 5 _ _ _ h.at_).trans rfl⟩
theorem f (h : SixAt w g v0 v1 v2 v3 v4 v5) : w.frozen? ⟨g, 0, none⟩ = false ∧ w.frozen? ⟨g, 1, none⟩ = false ∧ w.frozen? ⟨g, 2, none⟩ = false ∧ w.frozen? ⟨g, 3, none⟩ = false ∧ w.frozen? ⟨g, 4, none⟩ = false ∧ w.frozen? ⟨g, 5, none⟩ = false :=
  ⟨frozen_of_row w g 0 _ _ h.at_, frozen_of_row w g 1 _ _ h.at_, frozen_of_row w g 2 _ _ h.at_, frozen_of_row w g 3 _ _ h.at_, frozen_of_row w g 4 _ _ h.at_, frozen_of_row w g 5 _ _ h.at_⟩
theorem lt (h : SixAt w g v0 v1 v2 v3 v4 v5) : g < w.heap.size := (Array.getElem?_eq_some_iff.1 h.at_).1
theorem upd {F : Nat → Prop} (h : SixAt w g v0 v1 v2 v3 v4 v5) (u : Upd F w w') (hF : ¬ F g) : SixAt w' g v0 v1 v2 v3 v4 v5 := ⟨(u.block g h.lt hF).trans h.at_⟩
theorem below (h : SixAt w g v0 v1 v2 v3 v4 v5) (hb : Below w.heap.size w w') : SixAt w' g v0 v1 v2 v3 v4 v5 := ⟨(hb.block g h.lt).trans h.at_⟩
theorem six (h : SixAt w g v0 v1 v2 v3 v4 v5) (u0 u1 u2 u3 u4 u5 : Value) (W : World) (hW : W = (((((w.setCell ⟨g, 0, none⟩ u0).setCell ⟨g, 1, none⟩ u1).setCell ⟨g, 2, none⟩ u2).setCell ⟨g, 3, none⟩ u3).setCell ⟨g, 4, none⟩ u4).setCell ⟨g, 5, none⟩ u5) : SixAt W g u0 u1 u2 u3 u4 u5 ∧ Upd (fun k => k = g) w W := by
  subst hW
  refine ⟨⟨?_⟩, ((((((Upd.refl (fun k => k = g) w).setCell (p := ⟨g, 0, none⟩) (fun _ => rfl) _).setCell (p := ⟨g, 1, none⟩) (fun _ => rfl) _).setCell (p := ⟨g, 2, none⟩) (fun _ => rfl) _).setCell (p := ⟨g, 3, none⟩) (fun _ => rfl) _).setCell (p := ⟨g, 4, none⟩) (fun _ => rfl) _).setCell (p := ⟨g, 5, none⟩) (fun _ => rfl) _⟩
  rw [setCell_at (setCell_at (setCell_at (setCell_at (setCell_at (setCell_at h.at_ _) _) _) _) _) _]
  rfl
theorem s3 (h : SixAt w g v0 v1 v2 v3 v4 v5) (u : Value) : SixAt (w.setCell ⟨g, 3, none⟩ u) g v0 v1 v2 u v4 v5 ∧ Upd (fun k => k = g) w (w.setCell ⟨g, 3, none⟩ u) :=
  ⟨⟨by rw [setCell_at h.at_ _]; rfl⟩, (Upd.refl (fun k => k = g) w).setCell (p := ⟨g, 3, none⟩) (fun _ => rfl) _⟩
theorem s5 (h : SixAt w g v0 v1 v2 v3 v4 v5) (u : Value) : SixAt (w.setCell ⟨g, 5, none⟩ u) g v0 v1 v2 v3 v4 u ∧ Upd (fun k => k = g) w (w.setCell ⟨g, 5, none⟩ u) :=
  ⟨⟨by rw [setCell_at h.at_ _]; rfl⟩, (Upd.refl (fun k => k = g) w).setCell (p := ⟨g, 5, none⟩) (fun _ => rfl) _⟩
theorem s45 (h : SixAt w g v0 v1 v2 v3 v4 v5) (u u' : Value) : SixAt ((w.setCell ⟨g, 4, none⟩ u).setCell ⟨g, 5, none⟩ u') g v0 v1 v2 v3 u u' ∧ Upd (fun k => k = g) w ((w.setCell ⟨g, 4, none⟩ u).setCell ⟨g, 5, none⟩ u') :=
  ⟨⟨by rw [setCell_at (setCell_at h.at_ _) _]; rfl⟩, ((Upd.refl (fun k => k = g) w).setCell (p := ⟨g, 4, none⟩) (fun _ => rfl) _).setCell (p := ⟨g, 5, none⟩) (fun _ => rfl) _⟩
theorem s124 (h : SixAt w g v0 v1 v2 v3 v4 v5) (u u' u'' : Value) : SixAt (((w.setCell ⟨g, 1, none⟩ u).setCell ⟨g, 2, none⟩ u').setCell ⟨g, 4, none⟩ u'') g v0 u u' v3 u'' v5 ∧ Upd (fun k => k = g) w (((w.setCell ⟨g, 1, none⟩ u).setCell ⟨g, 2, none⟩ u').setCell ⟨g, 4, none⟩ u'') :=
  ⟨⟨by rw [setCell_at (setCell_at (setCell_at h.at_ _) _) _]; rfl⟩, (((Upd.refl (fun k => k = g) w).setCell (p := ⟨g, 1, none⟩) (fun _ => rfl) _).setCell (p := ⟨g, 2, none⟩) (fun _ => rfl) _).setCell (p := ⟨g, 4, none⟩) (fun _ => rfl) _⟩
end SixAt
theorem RCo.of_own {w : World} {p base n m c size : Nat} {e : TypeId} {A : Option Addr} {xs : List Value} (h : w.ownsRow base e size (.slice A n c) m xs) (hp : p < base) : RCo w p A xs :=
  ⟨own_RC h, fun _ ad e' => by
    subst e'
    have := (World.ownsRow.lt h ad.block rfl).1
    omega⟩
/-- A record's groups lie in memory, in no block of the records' own. -/
def GI (w : World) (B : Nat) (vr : Value) (m : Rm) : Prop := RG w m.A m.groups ∧ m.groups.length ≤ 255 ∧ (0 < m.groups.length → ∀ ad, m.A = some ad → B ≤ ad.block ∧ ad.block < w.heap.size ∧ vr.ownBlock ≠ some ad.block)
theorem GI.upd {F : Nat → Prop} {w w' : World} {B : Nat} {vr : Value} {m : Rm} (h : GI w B vr m) (u : Upd F w w') (hF : 0 < m.groups.length → ∀ ad, m.A = some ad → ¬ F ad.block) : GI w' B vr m :=
  ⟨RC.upd h.1 u (fun h0 ad e => hF (by simpa using h0) ad e), h.2.1, fun h0 ad e => ⟨(h.2.2 h0 ad e).1, Nat.lt_of_lt_of_le (h.2.2 h0 ad e).2.1 u.size, (h.2.2 h0 ad e).2.2⟩⟩
theorem GI.below {w w' : World} {B : Nat} {vr : Value} {m : Rm} (h : GI w B vr m) (hb : Below w.heap.size w w') : GI w' B vr m := h.upd (Upd.of_below (F := fun _ => False) hb) (fun _ _ _ => id)
theorem GI.val {w : World} {B : Nat} {vr vr' : Value} {m : Rm} (h : GI w B vr m) (hv : vr'.ownBlock = vr.ownBlock ∨ ∃ k, vr'.ownBlock = some k ∧ w.heap.size ≤ k) : GI w B vr' m :=
  ⟨h.1, h.2.1, fun h0 ad e => ⟨(h.2.2 h0 ad e).1, (h.2.2 h0 ad e).2.1, fun h5 => by
    rcases hv with hv | ⟨k, hv, hk⟩
    · exact (h.2.2 h0 ad e).2.2 (hv.symm.trans h5)
    · rw [hv] at h5
      have := (h.2.2 h0 ad e).2.1
      have := Option.some.inj h5
      omega⟩⟩

set_option maxRecDepth 100000 in
set_option maxHeartbeats 8000000 in
theorem readc_any (gr : Int) (A : Option Addr) (n c : Nat) (l : List UInt8) (w : World) (hl : l.length = n) (hll : l.length ≤ 17000000) (hr : RB w A l) (hnil : A = none → c = 0) :
    Calls Try.prog 27 #[.agg #[.int .i64 gr, .slice A n c]] w fun e w' => ∃ C : Cm, e = .returned (.agg C.cells.toArray) ∧ Below w.heap.size w w' ∧ clS gr l C ∧ ∀ p, p < w.heap.size → CF w' p C := by
  have HR := Lib.hid hr
  have HNIL := Lib.hid hnil
  have HLL := Lib.hid hll
  have HL := Lib.hid hl
  clear hr hnil hll hl
  obtain ⟨z33, hz33⟩ : ∃ z33, z33 = (lk ([], hd0)).toArray := ⟨_, rfl⟩
  have HZ33 := Lib.hid hz33
  clear hz33
  go_enter Try.func27, Try.ntmps27
  have hb0 : Below w.heap.size w (((w.alloc (.cells #[.int .i64 gr, .slice A n c] 27)).alloc (.cells clZ 73)).alloc (.cells (clG gr) 73)) := (((Below.refl _ _).alloc (Nat.le_refl _) _).alloc (by simp) _).alloc (by simp; omega) _
  have hg1 : (((w.alloc (.cells #[.int .i64 gr, .slice A n c] 27)).alloc (.cells clZ 73)).alloc (.cells (clG gr) 73)).heap[w.heap.size]? = some (.cells #[.int .i64 gr, .slice A n c] 27 (0, 0)) :=
    ((Below.heap_alloc _ _ _ (by simp; omega)).trans (Below.heap_alloc _ _ _ (by simp))).trans (heap_alloc_new w _)
  have hg2 : (((w.alloc (.cells #[.int .i64 gr, .slice A n c] 27)).alloc (.cells clZ 73)).alloc (.cells (clG gr) 73)).heap[w.heap.size + 1]? = some (.cells clZ 73 (0, 0)) := by
    refine (Below.heap_alloc _ _ _ (by simp)).trans ?_
    have h := heap_alloc_new (w.alloc (.cells #[.int .i64 gr, .slice A n c] 27)) (.cells clZ 73)
    simpa using h
  have hg3 : (((w.alloc (.cells #[.int .i64 gr, .slice A n c] 27)).alloc (.cells clZ 73)).alloc (.cells (clG gr) 73)).heap[w.heap.size + 1 + 1]? = some (.cells (clG gr) 73 (0, 0)) := by
    have h := heap_alloc_new ((w.alloc (.cells #[.int .i64 gr, .slice A n c] 27)).alloc (.cells clZ 73)) (.cells (clG gr) 73)
    simpa using h
  have hsz3 : (((w.alloc (.cells #[.int .i64 gr, .slice A n c] 27)).alloc (.cells clZ 73)).alloc (.cells (clG gr) 73)).heap.size = w.heap.size + 3 := by simp
  obtain ⟨w3, hw3⟩ : ∃ w3, w3 = (((w.alloc (.cells #[.int .i64 gr, .slice A n c] 27)).alloc (.cells clZ 73)).alloc (.cells (clG gr) 73)) := ⟨_, rfl⟩
  rw [← hw3] at hb0 hg1 hg2 hg3 hsz3
  obtain ⟨g1, eg1⟩ : ∃ g1, g1 = w.heap.size := ⟨_, rfl⟩
  have HW3 := Lib.hid hw3
  have HB0 := Lib.hid hb0
  have HG2 := Lib.hid hg2
  have HG3 := Lib.hid hg3
  have HS3 := Lib.hid hsz3
  rw [← eg1] at hg1 HG2 HG3 HS3
  have HE1 := Lib.hid eg1
  have k1 : w3.cell? ⟨g1, 1, none⟩ = some (.slice A n c) := (cell_of_row w3 g1 1 _ _ _ hg1).trans rfl
  clear hb0 hg1 hg2 hg3 hsz3 eg1 hw3
  go_upto_region 2 with fail
  rw [show (((w.alloc (.cells #[.int .i64 gr, .slice A n c] 27)).alloc (.cells #[.int .i64 0, .slice none 0 0, .bool false, .slice none 0 0, .bool false, .int .i64 0] 73)).alloc (.cells #[.int .i64 gr, .slice none 0 0, .bool false, .slice none 0 0, .bool false, .int .i64 0] 73)) = w3 from HW3.out.symm, ← HE1.out]
  have LB := Lib.hid (show w.heap.size ≤ w3.heap.size from HB0.out.size)
  go_wp2_with fail
  refine (decode_g A n c l w3 HL.out HLL.out (HR.out.below HB0.out) HNIL.out).mono ?_
  rintro e w4 ⟨hb4, hd⟩
  have B4 := Lib.hid hb4
  have BB4 := Lib.hid (below_below HB0.out HB0.out.size hb4)
  have HG24 := Lib.hid (show SixAt w4 (g1 + 1) _ _ _ _ _ _ from ⟨(hb4.block (g1 + 1) (by have := HS3.out; omega)).trans HG2.out⟩)
  have HG34 := Lib.hid (show SixAt w4 (g1 + 1 + 1) _ _ _ _ _ _ from ⟨(hb4.block (g1 + 1 + 1) (by have := HS3.out; omega)).trans HG3.out⟩)
  clear hb4 k1
  rcases hd with ⟨why, en, hde, rfl⟩ | ⟨M, v, hde, rfl, hvo, hMh, hMt, hMl⟩
  · have hne : (why != 0) = true := by simpa using decS_ne hde
    have HDE := Lib.hid hde
    clear hde
    have f5 := HG34.out.f.2.2.2.2.2
    have c5 := HG34.out.c.2.2.2.2.2
    obtain ⟨hg5, hu5⟩ := HG34.out.s5 (.int .i64 en)
    obtain ⟨w5, hw5⟩ : ∃ w5, w5 = w4.setCell ⟨g1 + 1 + 1, 5, none⟩ (.int .i64 en) := ⟨_, rfl⟩
    rw [← hw5] at hg5 hu5
    have HU5 := Lib.hid hu5
    have HG5 := Lib.hid hg5
    have HZ5 := Lib.hid (HG24.out.upd hu5 (by omega))
    have HW5 := Lib.hid hw5
    clear hg5 hu5 hw5
    go_upto_region 5 with fail
    rw [← HW5.out]
    clear f5 c5
    obtain ⟨k0, k1, k2, k3, k4, k5⟩ := HG5.out.c
    obtain ⟨y0, y1, y2, y3, y4, y5⟩ := HZ5.out.c
    obtain ⟨f0, f1, f2, f3, f4, f5⟩ := HZ5.out.f
    go_wp2_with fail
    try simp only [Exit.inBlock, Exit.then]
    obtain ⟨hf1, hf2⟩ := HZ5.out.six _ _ _ _ _ _ _ rfl
    refine bodyPost_ret (v := .agg #[.int .i64 gr, .slice none 0 0, .bool false, .slice none 0 0, .bool false, .int .i64 en]) ?_ rfl ?_
    · exact results_cell_row rfl _ _ (g1 + 1) 73 _ (0, 0) _ rfl hf1.at_ Try.underlying73 rfl infoCl
    · have hBB := below_upd (below_upd BB4.out BB4.out.size HU5.out (fun k hk => by have := HE1.out; omega)) (Nat.le_trans BB4.out.size HU5.out.size) hf2 (fun k hk => by have := HE1.out; omega)
      refine ⟨⟨gr, none, 0, [], false, none, 0, [], false, en⟩, rfl, hBB, ⟨rfl, ?_⟩, fun p hp => ⟨⟨(by intro h; exact absurd h (by simp [lv])), fun h => absurd h (by simp [lv])⟩, ⟨(by intro h; exact absurd h (by simp [rmc])), fun h => absurd h (by simp [rmc])⟩, (fun m hm => by cases hm), (fun x hx => by cases hx), (fun x hx => by cases hx), Nat.zero_le _, Nat.zero_le _, Nat.zero_le _⟩⟩
      rw [HDE.out]
      exact ⟨rfl, rfl, rfl, rfl, rfl⟩
  · obtain ⟨bl, cl, rfl, hcl⟩ := own_slice hvo
    have HDE := Lib.hid hde
    have HVO := Lib.hid hvo
    have HMH := Lib.hid hMh
    have HMT := Lib.hid hMt
    have HML := Lib.hid hMl
    clear hde hvo hMh hMt hMl hcl
    obtain ⟨k0, k1, k2, k3, k4, k5⟩ := HG34.out.c
    obtain ⟨f0, f1, f2, f3, f4, f5⟩ := HG34.out.f
    obtain ⟨hg6, hu6⟩ := HG34.out.s124 (.slice bl M.length cl) (.bool true) (.bool true)
    obtain ⟨w6, hw6⟩ : ∃ w6, w6 = ((w4.setCell ⟨g1 + 1 + 1, 1, none⟩ (.slice bl M.length cl)).setCell ⟨g1 + 1 + 1, 2, none⟩ (.bool true)).setCell ⟨g1 + 1 + 1, 4, none⟩ (.bool true) := ⟨_, rfl⟩
    rw [← hw6] at hg6 hu6
    have HU6 := Lib.hid hu6
    have HG6 := Lib.hid hg6
    have HZ6 := Lib.hid (HG24.out.upd hu6 (by omega))
    have HVO6 := Lib.hid (own_upd HVO.out hu6 (fun k hk e => by have := (World.ownsRow.lt HVO.out k hk).1; have := HS3.out; omega))
    have HW6 := Lib.hid hw6
    have BB6 := Lib.hid (below_upd BB4.out BB4.out.size hu6 (fun k hk => by have := HE1.out; omega))
    have HS6 := Lib.hid (show g1 + 1 + 1 < w6.heap.size from hg6.lt)
    clear hg6 hu6 hw6
    go_upto_region 7 with fail
    rw [← HW6.out]
    clear k0 k1 k2 k3 k4 k5 f0 f1 f2 f3 f4 f5
    have HEND := Lib.hid (show ∀ (wx : World) (ms : List Rm) (Av : Option Addr) (cv : Nat) (W : World), Upd (fun k => k = g1 + 1) wx W → Upd (fun k => k = g1 + 1 + 1) w6 wx → wx.ownsRow w6.heap.size 24 4 (.slice Av ms.length cv) ms.length (rmc ms) → (∀ m ∈ ms, GI wx w6.heap.size (.slice Av ms.length cv) m) → Below w.heap.size w W ∧ ∀ p, p < w.heap.size → RCo W p bl (lv M) ∧ RCo W p Av (rmc ms) ∧ ∀ m ∈ ms, RCo W p m.A (m.groups.map (Value.int .i64)) ∧ m.groups.length ≤ 100000000 from by
      intro wx ms Av cv W hu1 hu2 ho hg
      have he := HE1.out
      have hs6 := HS6.out
      have hs3 := HS3.out
      have hz6 := HZ6.out.lt
      have hbx := below_upd BB6.out BB6.out.size hu2 (fun k hk => by omega)
      have hbW := below_upd hbx hbx.size hu1 (fun k hk => by omega)
      refine ⟨hbW, fun p hp => ⟨RCo.of_own (own_upd (own_upd HVO6.out hu2 (fun k hk e => by have := (World.ownsRow.lt HVO6.out k hk).1; omega)) hu1 (fun k hk e => by have := (World.ownsRow.lt HVO6.out k hk).1; omega)) (by omega), RCo.of_own (own_upd ho hu1 (fun k hk e => by have := (World.ownsRow.lt ho k hk).1; omega)) (by omega), fun m hm => ?_⟩⟩
      have hgm := (hg m hm).upd hu1 (fun h0 ad e hk => by have := ((hg m hm).2.2 h0 ad e).1; omega)
      exact ⟨⟨hgm.1, fun h0 ad e hk => by have := (hgm.2.2 (by simpa using h0) ad e).1; omega⟩, Nat.le_trans hgm.2.1 (by decide)⟩)
    go_wp2_with fail
    go_loopg [32] M.length (fun k s32 wr => ∃ (i : Nat) (ms : List Rm) (vr : Value), i ≤ M.length ∧ k = M.length - i ∧ s32 = .int .i64 (i : Int) ∧ ms.length = i ∧ recsOf M = (ms.map Rm.p ++ (recsOf (M.drop i)).1, (recsOf (M.drop i)).2) ∧ SixAt wr (g1 + 1 + 1) (.int .i64 gr) (.slice bl M.length cl) (.bool true) vr (.bool true) (.int .i64 0) ∧ wr.ownsRow w6.heap.size 24 4 vr i (rmc ms) ∧ (∀ m ∈ ms, GI wr w6.heap.size vr m) ∧ Upd (fun k => k = g1 + 1 + 1) w6 wr)
    case atStart => exact ⟨0, [], _, Nat.zero_le _, by omega, rfl, rfl, by simp, HG6.out, World.ownsRow_nil _ _ _ _, (fun m hm => by cases hm), Upd.refl _ _⟩
    case round =>
      obtain ⟨i, ms, vr, hi, hk, rfl, hms, hrc, hsx, hvr, hgi, hu⟩ := hrel
      obtain ⟨Av, cv, rfl, hcv⟩ := own_slice hvr
      have HK := Lib.hid hk
      subst hms
      have HRC := Lib.hid hrc
      have HSX := Lib.hid hsx
      have HVR := Lib.hid hvr
      have HGI := Lib.hid hgi
      have HU := Lib.hid hu
      have HCV := Lib.hid hcv
      clear hk hrc hsx hvr hgi hu hcv
      by_cases hlt : ms.length < M.length
      · obtain ⟨b1, o1, rfl, e1⟩ := (own_RC HVO6.out).parts (by rw [lv_length M HMH.out]; omega)
        have e2 := (own_RC (own_upd HVO6.out HU.out (fun k hk e => by have := (World.ownsRow.lt HVO6.out k hk).1; have := HS3.out; omega)))
        have e1' : ∀ j u, (lv M)[j]? = some u → wr.cell? ⟨b1, o1 + j, none⟩ = some u := by
          obtain ⟨b1', o1', e3, e4⟩ := e2.parts (by rw [lv_length M HMH.out]; omega)
          cases e3
          exact e4
        have HRG := Lib.hid (lk_range HMH.out e1' ms.length hlt)
        have hhl := HMH.out _ (List.getElem_mem hlt)
        have htl := HMT.out _ (List.getElem_mem hlt)
        have HRN := Lib.hid (fun h => recsOf_none hlt h)
        have HRS := Lib.hid (fun r h => recsOf_some (r := r) hlt h)
        generalize M[ms.length] = x at *
        have hlkl := lk_length x hhl
        obtain ⟨lc, elc⟩ : ∃ lc, lc = lk x := ⟨_, rfl⟩
        have hfst : lc = .string (strB x.1) :: bv x.2 := elc
        rw [← elc] at hlkl HRG
        have hil : (Try.prog.info? 92).map (·.size) = some lc.length := by rw [hlkl]; exact info33
        have hone : lc.toArray.all (·.oneCell') = true := by rw [elc]; exact all_oneCell_toArray (lk_one x)
        have hi0 : (0 : Int) ≤ (ms.length : Int) := by omega
        have hi1 : (ms.length : Int) < (M.length : Int) := by omega
        have HLT := Lib.hid hlt
        have HIL := Lib.hid hil
        have HLKL := Lib.hid hlkl
        have HONE := Lib.hid hone
        have HFST := Lib.hid hfst
        have HTL := Lib.hid htl
        clear e1 e2 e1' hhl htl hil hlkl hone hfst elc hlt hi
        go_upto_region 9 with fail
        refine wp_region_lit ?_
        refine Great.wpList_readTo rfl _ rfl (.int .i64 (ms.length : Int)) rfl ?_
        refine Great.wpList_readTo rfl _ rfl (.pointer (some ⟨b1, o1 + ms.length * 33, none⟩)) ?h1 ?_
        case h1 =>
          simp only [execOp]
          go_simp
        refine wpList_load_mid rfl 92 (.tmp 35) rfl b1 (o1 + ms.length * 33) rfl lc _ HRG.out Try.underlying92 rfl HIL.out ?_
        obtain ⟨z, hz⟩ : ∃ z, z = wr.heap.size := ⟨_, rfl⟩
        refine Great.wpList_allocTo rfl _ rfl (.pointer (some ⟨z, 0, none⟩)) (.cells z33 92) ?h2 ?_
        case h2 => rw [HZ33.out, hz]; kernel_rfl
        refine Great.wpList_readTo rfl _ rfl (.int .i64 (ms.length : Int)) rfl ?_
        refine wpList_store_row rfl 92 (.tmp 8) (.tmp 36) rfl z lc.toArray rfl rfl 92 z33 (by rw [hz]; exact heap_alloc_new wr _) (by rw [List.size_toArray]; exact HIL.out) (by rw [HZ33.out, List.size_toArray, List.size_toArray, HLKL.out]; rfl) HONE.out ?_
        refine wpList_nil ?_
        rename_i hK
        refine hK _ _ ?_
        clear hK
        obtain ⟨w7, hw7⟩ : ∃ w7, w7 = (wr.alloc (.cells z33 92)).setRow z lc.toArray := ⟨_, rfl⟩
        rw [← hw7]
        have hz7 : w7.heap[z]? = some (.cells lc.toArray 92) := by rw [hw7, hz]; exact setRow_heap _ _ _ _ _ _ (heap_alloc_new wr _)
        have cz : w7.cell? ⟨z, 0, none⟩ = some (.string (strB x.1)) := by
          rw [cell_of_row w7 z 0 _ _ _ hz7, HFST.out]
          rfl
        have HB7 := Lib.hid (show Below wr.heap.size wr w7 by rw [hw7]; exact below_setRow ((Below.refl _ _).alloc (Nat.le_refl _) _) _ _ (by omega))
        clear hw7 hz7 hz
        go_wp2_with fail
        refine (read_any x.1 w7 (by have := HTL.out; omega)).mono ?_
        rintro e w8 ⟨hb8, hres⟩
        have HB8 := Lib.hid (below_below HB7.out HB7.out.size hb8)
        have HB78 := Lib.hid hb8
        clear hb8 cz
        rcases hres with ⟨hrn, rfl⟩ | ⟨r, Ar, cr, hrs, rfl, hro⟩
        · unfold recZ
          have HRN1 := Lib.hid (HRN.out hrn)
          have hb9 : Below w8.heap.size w8 (w8.alloc (.cells #[.int .i64 0, .string ⟨#[]⟩, .slice none 0 0, .string ⟨#[]⟩] 24)) := (Below.refl _ _).alloc (Nat.le_refl _) _
          obtain ⟨w9, hw9⟩ : ∃ w9, w9 = w8.alloc (.cells #[.int .i64 0, .string ⟨#[]⟩, .slice none 0 0, .string ⟨#[]⟩] 24) := ⟨_, rfl⟩
          rw [← hw9] at hb9
          have HW9 := Lib.hid hw9
          have HB9 := Lib.hid (below_below HB8.out HB8.out.size hb9)
          clear hrn hb9 hw9
          go_upto_region 11 with fail
          rw [← HW9.out]
          have HS9 := Lib.hid (HSX.out.below HB9.out)
          obtain ⟨k0, k1, k2, k3, k4, k5⟩ := HS9.out.c
          obtain ⟨f0, f1, f2, f3, f4, f5⟩ := HS9.out.f
          obtain ⟨hg, hu⟩ := HS9.out.s45 (.bool false) (.int .i64 (ms.length : Int))
          obtain ⟨wx, hwx⟩ : ∃ wx, wx = (w9.setCell ⟨g1 + 1 + 1, 4, none⟩ (.bool false)).setCell ⟨g1 + 1 + 1, 5, none⟩ (.int .i64 (ms.length : Int)) := ⟨_, rfl⟩
          rw [← hwx] at hg hu
          have HWX := Lib.hid hwx
          have HGE := Lib.hid hg
          have hu9 := HU.out.below HB9.out
          have HUE := Lib.hid (hu9.trans hu (fun _ _ h => h))
          have HZE := Lib.hid ((HZ6.out.upd hu9 (by omega)).upd hu (by omega))
          have HOE := Lib.hid (show wx.ownsRow w6.heap.size 24 4 (.slice Av ms.length cv) ms.length (rmc ms) by
            exact own_upd (own_below HVR.out HB9.out) hu (fun k hk e => by have := (World.ownsRow.lt HVR.out k hk).1; have := HS6.out; omega))
          have HGIE := Lib.hid (show ∀ m ∈ ms, GI wx w6.heap.size (.slice Av ms.length cv) m from fun m hm => by
            exact ((HGI.out m hm).below HB9.out).upd hu (fun h0 ad e hk => by have := ((HGI.out m hm).2.2 h0 ad e).1; have := HS6.out; omega))
          have HMSL := Lib.hid (show ms.length ≤ 4096 by have := HLT.out; have := HML.out; omega)
          have HCV := Lib.hid (show ms.length ≤ cv by exact HCV.out)
          have HRES := Lib.hid (show ms.map Rm.p = (recsOf M).1 ∧ false = (recsOf M).2 ∧ (ms.length : Int) = if (recsOf M).2 then 0 else ((recsOf M).1.length : Int) by
            have h := HRC.out
            rw [HRN1.out, List.append_nil] at h
            rw [h]
            refine ⟨rfl, rfl, ?_⟩
            show (ms.length : Int) = ((ms.map Rm.p).length : Int)
            rw [List.length_map])
          clear hg hu hu9 hwx
          go_upto_region 15 with fail
          rw [show (w9.setCell ⟨g1 + 1 + 1, 4, none⟩ (.bool false)).setCell ⟨g1 + 1 + 1, 5, none⟩ (.int .i64 (ms.length : Int)) = wx from HWX.out.symm]
          clear k0 k1 k2 k3 k4 k5 f0 f1 f2 f3 f4 f5
          obtain ⟨k0, k1, k2, k3, k4, k5⟩ := HGE.out.c
          obtain ⟨y0, y1, y2, y3, y4, y5⟩ := HZE.out.c
          obtain ⟨f0, f1, f2, f3, f4, f5⟩ := HZE.out.f
          go_wp2_with fail
          try simp only [Exit.inBlock, Exit.then]
          obtain ⟨hf1, hf2⟩ := HZE.out.six _ _ _ _ _ _ _ rfl
          refine bodyPost_ret (v := .agg #[.int .i64 gr, .slice (some ⟨b1, o1, none⟩) M.length cl, .bool true, .slice Av ms.length cv, .bool false, .int .i64 (ms.length : Int)]) ?_ rfl ?_
          · exact results_cell_row rfl _ _ (g1 + 1) 73 _ (0, 0) _ rfl hf1.at_ Try.underlying73 rfl infoCl
          · obtain ⟨hBB, hcf⟩ := HEND.out _ _ _ _ _ hf2 HUE.out HOE.out HGIE.out
            refine ⟨⟨gr, some ⟨b1, o1, none⟩, cl, M, true, Av, cv, ms, false, (ms.length : Int)⟩, rfl, hBB, ⟨rfl, ?_⟩, fun p hp => ⟨(hcf p hp).1, (hcf p hp).2.1, (hcf p hp).2.2, HMH.out, HMT.out, Nat.le_trans HML.out (by decide), Nat.le_trans HMSL.out (by decide), HCV.out⟩⟩
            rw [HDE.out]
            exact ⟨rfl, rfl, HRES.out.1, HRES.out.2.1, HRES.out.2.2⟩
        · simp only [Rp.m, Rm.cells]
          have hb9 : Below w8.heap.size w8 (w8.alloc (.cells #[.int .i64 r.kind, .string (strB r.tx), .slice Ar r.groups.length cr, .string (strB r.body)] 24)) := (Below.refl _ _).alloc (Nat.le_refl _) _
          have hx9 := heap_alloc_new w8 (.cells #[.int .i64 r.kind, .string (strB r.tx), .slice Ar r.groups.length cr, .string (strB r.body)] 24)
          obtain ⟨w9, hw9⟩ : ∃ w9, w9 = w8.alloc (.cells #[.int .i64 r.kind, .string (strB r.tx), .slice Ar r.groups.length cr, .string (strB r.body)] 24) := ⟨_, rfl⟩
          rw [← hw9] at hb9 hx9
          obtain ⟨g9, eg9⟩ : ∃ g9, g9 = w8.heap.size := ⟨_, rfl⟩
          rw [← eg9] at hx9
          have HW9 := Lib.hid hw9
          have HE9 := Lib.hid eg9
          have HB9 := Lib.hid (below_below HB8.out HB8.out.size hb9)
          have q0 : ∀ ob, (w9.alloc ob).cell? ⟨g9, 0, none⟩ = some (.int .i64 r.kind) := fun ob => Lib.cell?_alloc_some ob ((cell_of_row w9 g9 0 _ _ _ hx9).trans rfl)
          have p0 : w9.cell? ⟨g9, 0, none⟩ = some (.int .i64 r.kind) := (cell_of_row w9 g9 0 _ _ _ hx9).trans rfl
          have p1 : w9.cell? ⟨g9, 1, none⟩ = some (.string (strB r.tx)) := (cell_of_row w9 g9 1 _ _ _ hx9).trans rfl
          have p2 : w9.cell? ⟨g9, 2, none⟩ = some (.slice Ar r.groups.length cr) := (cell_of_row w9 g9 2 _ _ _ hx9).trans rfl
          have p3 : w9.cell? ⟨g9, 3, none⟩ = some (.string (strB r.body)) := (cell_of_row w9 g9 3 _ _ _ hx9).trans rfl
          have HGN := Lib.hid (show GI w9 w6.heap.size (.slice Av ms.length cv) (r.m Ar cr) from by
            have hro9 := own_below hro hb9
            refine ⟨own_RC hro9, readS_groups hrs, fun h0 ad e => ?_⟩
            have hA : Ar = some ad := e
            have h1 := World.ownsRow.lt hro9 ad.block (by rw [hA]; rfl)
            have h2 := World.ownsRow.lt hro ad.block (by rw [hA]; rfl)
            have h3 := HU.out.size
            have h4 := HB7.out.size
            refine ⟨by omega, h1.2, fun h5 => ?_⟩
            have h6 := (World.ownsRow.lt HVR.out ad.block h5).2
            omega)
          have HRS1 := Lib.hid (HRS.out r hrs)
          clear hb9 hx9 hw9 eg9 hrs hro q0
          have HSX9 := Lib.hid (HSX.out.below HB9.out)
          have HVR9 := Lib.hid (own_below HVR.out HB9.out)
          have HS69 := Lib.hid (show w6.heap.size ≤ w9.heap.size from Nat.le_trans HU.out.size HB9.out.size)
          have k3 := HSX9.out.c.2.2.2.1
          have hml : ms.length ≤ 4096 := by have := HLT.out; have := HML.out; omega
          have HML2 := Lib.hid hml
          clear hml
          go_upto_region 13 with fail
          rw [← HW9.out, ← HE9.out]
          go_wp2_with (at_builtin; refine append_any rfl (.tmp 49) (.tmp 51) 29 rfl w6.heap.size 24 (.agg recZ) 4 64 Try.underlying29 infoRecA rfl (by omega) (by omega) _ ms.length (rmc ms) rfl (HVR9.out.alloc _) _ 1 1 [.int .i64 r.kind, .string (strB r.tx), .slice Ar r.groups.length cr, .string (strB r.body)] rfl rfl (RC_newL _ [.int .i64 r.kind, .string (strB r.tx), .slice Ar r.groups.length cr, .string (strB r.body)] 24) (by intro u hu; simp only [List.mem_cons, List.not_mem_nil, or_false] at hu; rcases hu with rfl | rfl | rfl | rfl <;> rfl) ?c1 ?c2 ?_)
          case c1 => have := HML2.out; omega
          case c2 => have := HS69.out; simp; omega
          intro v10 w10 ho10 hg10 hat10
          have hua : Upd (fun k => (Value.slice Av ms.length cv).ownBlock = some k) w9 w10 := ((Upd.refl _ w9).alloc _).grown hg10 (fun k hk _ => hk)
          have hlo : ∀ k, (Value.slice Av ms.length cv).ownBlock = some k → w6.heap.size ≤ k := fun k hk => (World.ownsRow.lt HVR.out k hk).1
          have HGI10 := Lib.hid (show ∀ m ∈ ms ++ [r.m Ar cr], GI w10 w6.heap.size v10 m from fun m hm => by
            have h9 : GI w9 w6.heap.size (.slice Av ms.length cv) m := by
              rcases List.mem_append.1 hm with h | h
              · exact (HGI.out m h).below HB9.out
              · rw [List.mem_singleton.1 h]
                exact HGN.out
            have h10 := h9.upd hua (fun h0 ad e => (h9.2.2 h0 ad e).2.2)
            refine ⟨h10.1, h10.2.1, fun h0 ad e => ⟨(h10.2.2 h0 ad e).1, (h10.2.2 h0 ad e).2.1, fun h5 => ?_⟩⟩
            rcases hat10 with h | h
            · exact (h9.2.2 h0 ad e).2.2 (h.symm.trans h5)
            · rw [h] at h5
              have h6 := Option.some.inj h5
              have h7 := (h9.2.2 h0 ad e).2.1
              omega)
          have HSX10 := Lib.hid (HSX9.out.upd hua (fun e => by have := hlo _ e; have := HS6.out; omega))
          have HU10 := Lib.hid ((HU.out.below HB9.out).trans hua (fun k hk e => by have := hlo _ e; omega))
          have HO10 := Lib.hid (show w10.ownsRow w6.heap.size 24 4 v10 (ms.length + 1) (rmc (ms ++ [r.m Ar cr])) by rw [rmc_append]; exact ho10)
          obtain ⟨A10, c10, rfl, _⟩ := own_slice ho10
          have f3 := HSX10.out.f.2.2.2.1
          have d3 := HSX10.out.c.2.2.2.1
          obtain ⟨hs11, hu11⟩ := HSX10.out.s3 (.slice A10 (ms.length + 1) c10)
          have HS11 := Lib.hid hs11
          have HU11 := Lib.hid hu11
          clear ho10 hg10 hat10 hua hlo hs11 hu11 k3 p0 p1 p2 p3
          go_wp2_with fail
          go_roundg (M.length - (ms.length + 1))
          case measure => have := HK.out; have := HLT.out; omega
          case rel =>
            refine ⟨ms.length + 1, ms ++ [r.m Ar cr], .slice A10 (ms.length + 1) c10, HLT.out, rfl, (by have := HML2.out; rw [wrap64_small (by omega) (by omega)]; rfl), by simp, ?_, HS11.out, ?_, ?_, HU10.out.trans HU11.out (fun _ _ h => h)⟩
            · rw [HRC.out, HRS1.out]
              simp only [List.map_append, List.map_cons, List.map_nil, List.append_assoc, List.cons_append, List.nil_append]
              rfl
            · exact own_upd HO10.out HU11.out (fun k hk e => by have := (World.ownsRow.lt HO10.out k hk).1; have := HS6.out; omega)
            · exact fun m hm => (HGI10.out m hm).upd HU11.out (fun h0 ad e hk => by have := ((HGI10.out m hm).2.2 h0 ad e).1; have := HS6.out; omega)
      · have hle : ms.length = M.length := by omega
        have HLM := Lib.hid hle
        have HGE := Lib.hid (show SixAt wr (g1 + 1 + 1) (.int .i64 gr) (.slice bl M.length cl) (.bool true) (.slice Av ms.length cv) (.bool true) (.int .i64 0) by exact HSX.out)
        have HUE := HU
        have HZE := Lib.hid (HZ6.out.upd HU.out (by omega))
        have HOE := Lib.hid (show wr.ownsRow w6.heap.size 24 4 (.slice Av ms.length cv) ms.length (rmc ms) by exact HVR.out)
        have HGIE := Lib.hid (show ∀ m ∈ ms, GI wr w6.heap.size (.slice Av ms.length cv) m by exact HGI.out)
        have HMSL := Lib.hid (show ms.length ≤ 4096 by have := HML.out; omega)
        have HCV := Lib.hid (show ms.length ≤ cv by exact HCV.out)
        have HRES := Lib.hid (show ms.map Rm.p = (recsOf M).1 ∧ true = (recsOf M).2 ∧ (0 : Int) = if (recsOf M).2 then 0 else ((recsOf M).1.length : Int) by
          have h := HRC.out
          rw [HLM.out, List.drop_length, show recsOf [] = ([], true) by rw [recsOf], List.append_nil] at h
          rw [h]
          exact ⟨rfl, rfl, rfl⟩)
        have hnl : ¬ ((ms.length : Int) < (M.length : Int)) := by omega
        clear hlt hi hle
        go_upto_region 15 with fail
        obtain ⟨k0, k1, k2, k3, k4, k5⟩ := HGE.out.c
        obtain ⟨y0, y1, y2, y3, y4, y5⟩ := HZE.out.c
        obtain ⟨f0, f1, f2, f3, f4, f5⟩ := HZE.out.f
        go_wp2_with fail
        try simp only [Exit.inBlock, Exit.then]
        obtain ⟨hf1, hf2⟩ := HZE.out.six _ _ _ _ _ _ _ rfl
        refine bodyPost_ret (v := .agg #[.int .i64 gr, .slice bl M.length cl, .bool true, .slice Av ms.length cv, .bool true, .int .i64 0]) ?_ rfl ?_
        · exact results_cell_row rfl _ _ (g1 + 1) 73 _ (0, 0) _ rfl hf1.at_ Try.underlying73 rfl infoCl
        · obtain ⟨hBB, hcf⟩ := HEND.out _ _ _ _ _ hf2 HUE.out HOE.out HGIE.out
          refine ⟨⟨gr, bl, cl, M, true, Av, cv, ms, true, 0⟩, rfl, hBB, ⟨rfl, ?_⟩, fun p hp => ⟨(hcf p hp).1, (hcf p hp).2.1, (hcf p hp).2.2, HMH.out, HMT.out, Nat.le_trans HML.out (by decide), Nat.le_trans HMSL.out (by decide), HCV.out⟩⟩
          rw [HDE.out]
          exact ⟨rfl, rfl, HRES.out.1, HRES.out.2.1, HRES.out.2.2⟩
end Go.Proofs.Ytjakhemolecbnaa
end

/-
  The walk of the verifier's found.
-/
section
set_option linter.unusedVariables false
set_option linter.unusedSimpArgs false
namespace Go.Proofs.Ytjakhemolecbnaa
open Go.RowKit

theorem builtInt3 (a b c : Int) : Try.prog.builtSlice 3 3 [(0, .int .i64 a), (1, .int .i64 b), (2, .int .i64 c)] = some #[.int .i64 a, .int .i64 b, .int .i64 c] := by kernel_rfl

set_option maxRecDepth 100000 in
set_option maxHeartbeats 4000000 in
theorem found_any (p : Nat) (vl : Value) (b : Int × Int × Int) (rl nn aa : Int) (w : World) (h : VAt w p vl b) :
    Calls Try.prog 32 #[.pointer (some ⟨p, 0, none⟩), .int .i64 rl, .int .i64 nn, .int .i64 aa] w fun e w' => e = .returned (.tuple #[]) ∧ VAt w' p vl (bestOf b (rl, nn, aa)) ∧ Upd (fun k => k = p) w w' := by
  obtain ⟨r0, c0, a0⟩ := b
  unfold VAt at h
  dsimp only at h
  have hpl : p < w.heap.size := (Array.getElem?_eq_some_iff.1 h).1
  obtain ⟨w1, hw1⟩ : ∃ w1, w1 = w.alloc (.cells #[.int .i64 rl, .int .i64 nn, .int .i64 aa] 33) := ⟨_, rfl⟩
  have hb1 : Below w.heap.size w w1 := by rw [hw1]; exact (Below.refl _ _).alloc (Nat.le_refl _) _
  have hp1 : w1.heap[p]? = some (.cells #[vl, .int .i64 r0, .int .i64 c0, .int .i64 a0] 70 (0, 0)) := (hb1.block p hpl).trans h
  have hg1 : w1.heap[w.heap.size]? = some (.cells #[.int .i64 rl, .int .i64 nn, .int .i64 aa] 33 (0, 0)) := by rw [hw1]; exact heap_alloc_new w _
  have HB1 := Lib.hid hb1
  have HP1 := Lib.hid hp1
  have HG1 := Lib.hid hg1
  have HW1 := Lib.hid hw1
  have HPL := Lib.hid hpl
  clear h hb1 hp1 hg1 hw1
  have fin : ∀ W, Below w1.heap.size w1 W → (∀ j, W.frozen? ⟨p, j, none⟩ = false) ∧ W.heap[p]? = some (.cells #[vl, .int .i64 r0, .int .i64 c0, .int .i64 a0] 70 (0, 0)) ∧ W.heap[w.heap.size]? = some (.cells #[.int .i64 rl, .int .i64 nn, .int .i64 aa] 33 (0, 0)) := fun W hW => by
    have h1 := (hW.block p (Array.getElem?_eq_some_iff.1 HP1.out).1).trans HP1.out
    have h2 := (hW.block w.heap.size (Array.getElem?_eq_some_iff.1 HG1.out).1).trans HG1.out
    exact ⟨fun j => frozen_of_row W p j _ _ h1, h1, h2⟩
  have FIN := Lib.hid fin
  clear fin
  obtain ⟨bo, hbo⟩ : ∃ bo, bestOf (r0, c0, a0) (rl, nn, aa) = bo := ⟨_, rfl⟩
  rw [hbo]
  have HBO := Lib.hid hbo
  clear hbo
  go_enter Try.func32, Try.ntmps32
  go_upto_region 1 with fail
  rw [← HW1.out]
  have P1 : w1.cell? ⟨p, 1, none⟩ = some (.int .i64 r0) := (cell_of_row w1 p 1 _ _ _ HP1.out).trans rfl
  have P2 : w1.cell? ⟨p, 2, none⟩ = some (.int .i64 c0) := (cell_of_row w1 p 2 _ _ _ HP1.out).trans rfl
  have P3 : w1.cell? ⟨p, 3, none⟩ = some (.int .i64 a0) := (cell_of_row w1 p 3 _ _ _ HP1.out).trans rfl
  have G0 : w1.cell? ⟨w.heap.size, 0, none⟩ = some (.int .i64 rl) := (cell_of_row w1 _ 0 _ _ _ HG1.out).trans rfl
  have G1 : w1.cell? ⟨w.heap.size, 1, none⟩ = some (.int .i64 nn) := (cell_of_row w1 _ 1 _ _ _ HG1.out).trans rfl
  have G2 : w1.cell? ⟨w.heap.size, 2, none⟩ = some (.int .i64 aa) := (cell_of_row w1 _ 2 _ _ _ HG1.out).trans rfl
  have HFI := Lib.hid (show ∀ W, Below w1.heap.size w1 W → ∀ W2, W2 = ((W.setCell ⟨p, 1, none⟩ (.int .i64 rl)).setCell ⟨p, 2, none⟩ (.int .i64 nn)).setCell ⟨p, 3, none⟩ (.int .i64 aa) → VAt W2 p vl (rl, nn, aa) ∧ Upd (fun k => k = p) w W2 from by
    rintro W hW W2 rfl
    refine ⟨?_, ((((Upd.of_below (F := fun k => k = p) (below_below HB1.out HB1.out.size hW)).setCell (p := ⟨p, 1, none⟩) (fun _ => rfl) _).setCell (p := ⟨p, 2, none⟩) (fun _ => rfl) _).setCell (p := ⟨p, 3, none⟩) (fun _ => rfl) _)⟩
    unfold VAt
    rw [setCell_at (setCell_at (setCell_at (FIN.out W hW).2.1 _) _) _]
    rfl)
  have HUP := Lib.hid (show ∀ W, Below w1.heap.size w1 W → Upd (fun k => k = p) w W from fun W hW => Upd.of_below (below_below HB1.out HB1.out.size hW))
  generalize w.heap.size = gf at *
  by_cases hr : r0 = 0
  · have hbo : bestOf (r0, c0, a0) (rl, nn, aa) = (rl, nn, aa) := by unfold bestOf; rw [if_pos (.inl hr)]
    have HBE := Lib.hid (HBO.out.symm.trans hbo)
    have hr1 : (r0 == 0) = true := by simpa using hr
    clear hbo
    subst hr
    go_region
    all_goals
      have hI : Below w1.heap.size w1 w1.drew := (Below.refl _ _).drew
      have HI := Lib.hid hI
      have hfz := (FIN.out _ (Below.refl _ _)).1
      have f1 := hfz 1
      have f2 := hfz 2
      have f3 := hfz 3
      clear hI hfz
      go_wp2_with fail
      go_end0
      obtain ⟨h1, h2⟩ := HFI.out _ HI.out _ rfl
      exact ⟨rfl, by rw [HBE.out]; exact h1, h2⟩
  · have hbo : bestOf (r0, c0, a0) (rl, nn, aa) = if orOf (sgnOf rl r0) (sgnOf nn c0) (sgnOf aa a0) < 0 then (rl, nn, aa) else (r0, c0, a0) := by
      unfold bestOf
      dsimp only
      by_cases hx : orOf (sgnOf rl r0) (sgnOf nn c0) (sgnOf aa a0) < 0
      · rw [if_pos (.inr hx), if_pos hx]
      · rw [if_neg (fun h => h.elim hr hx), if_neg hx]
    have hr1 : (r0 == 0) = false := by simpa using hr
    obtain ⟨s1, hs1⟩ : ∃ s1, sgnOf rl r0 = s1 := ⟨_, rfl⟩
    obtain ⟨s2, hs2⟩ : ∃ s2, sgnOf nn c0 = s2 := ⟨_, rfl⟩
    obtain ⟨s3, hs3⟩ : ∃ s3, sgnOf aa a0 = s3 := ⟨_, rfl⟩
    rw [hs1, hs2, hs3] at hbo
    obtain ⟨so, hso⟩ : ∃ so, orOf s1 s2 s3 = so := ⟨_, rfl⟩
    rw [hso] at hbo
    have HBE := Lib.hid (HBO.out.symm.trans hbo)
    obtain ⟨bb, hbb⟩ : ∃ bb, decide (so < 0) = bb := ⟨_, rfl⟩
    have HS1 := Lib.hid hs1
    have HS2 := Lib.hid hs2
    have HS3 := Lib.hid hs3
    have HSO := Lib.hid hso
    have HBB := Lib.hid hbb
    have HB3 := Lib.hid (builtInt3 s1 s2 s3)
    clear hbo hs1 hs2 hs3 hso hbb hr
    refine region_by (fun W => Below w1.heap.size w1 W) [(fun v _ => v = .pointer (some ⟨p, 0, none⟩)), (fun v _ => v = .pointer (some ⟨p, 0, none⟩)), (fun v _ => v = .pointer (some ⟨p, 1, none⟩)), (fun v _ => v = .pointer (some ⟨p, 1, none⟩)), (fun v _ => v = .int .i64 r0), (fun v _ => v = .bool false), (fun v _ => v = .bool false), (fun v _ => v = .pointer (some ⟨gf, 0, none⟩)), (fun v _ => v = .int .i64 rl), (fun v _ => v = .pointer (some ⟨p, 0, none⟩)), (fun v _ => v = .pointer (some ⟨p, 0, none⟩)), (fun v _ => v = .pointer (some ⟨p, 1, none⟩)), (fun v _ => v = .pointer (some ⟨p, 1, none⟩)), (fun v _ => v = .int .i64 r0), fun v _ => v = .int .i64 s1, (fun v _ => v = .pointer (some ⟨gf, 1, none⟩)), (fun v _ => v = .int .i64 nn), (fun v _ => v = .pointer (some ⟨p, 0, none⟩)), (fun v _ => v = .pointer (some ⟨p, 0, none⟩)), (fun v _ => v = .pointer (some ⟨p, 1, none⟩)), (fun v _ => v = .pointer (some ⟨p, 2, none⟩)), (fun v _ => v = .int .i64 c0), fun v _ => v = .int .i64 s2, (fun v _ => v = .pointer (some ⟨gf, 2, none⟩)), (fun v _ => v = .int .i64 aa), (fun v _ => v = .pointer (some ⟨p, 0, none⟩)), (fun v _ => v = .pointer (some ⟨p, 0, none⟩)), (fun v _ => v = .pointer (some ⟨p, 1, none⟩)), (fun v _ => v = .pointer (some ⟨p, 3, none⟩)), (fun v _ => v = .int .i64 a0), fun v _ => v = .int .i64 s3, fun v w' => ∃ g, v = .slice (some ⟨g, 0, none⟩) 3 3 ∧ w'.cell? ⟨g, 0, none⟩ = some (.int .i64 s1) ∧ w'.cell? ⟨g, 1, none⟩ = some (.int .i64 s2) ∧ w'.cell? ⟨g, 2, none⟩ = some (.int .i64 s3), fun v _ => v = .int .i64 so, fun v _ => v = .bool bb, (fun v _ => v = .bool bb)] (by kernel_rfl) (by kernel_rfl) (by kernel_rfl) rfl ((Below.refl _ _).drew) ?ok1 ?fin1
    case ok1 =>
      refine ⟨?_, ?_, ?_, ?_, ?_, ?_, ?_, ?_, ?_, ?_, ?_, ?_, ?_, ?_, ?_, ?_, ?_, ?_, ?_, ?_, ?_, ?_, ?_, ?_, ?_, ?_, ?_, ?_, ?_, ?_, ?_, ?_, ?_, ?_, ?_, trivial⟩
      · intro a' w' K hI hd hq hK
        have e0 : a'.eval (.tmp 0) = .pointer (some ⟨p, 0, none⟩) := (hq 0 (by kernel_rfl)).trans rfl
        clear hd hq
        refine op_value (wanted_free _ _ (by rfl)) (v := .pointer (some ⟨p, 0, none⟩)) (w'' := w') ?_ (hK _ _ hI (fun _ _ h => h) rfl)
        clear hK
        simp only [execOp, e0]
        have f0 : a'.tmps[0]?.getD undef = .pointer (some ⟨p, 0, none⟩) := (Array.getD_eq_getD_getElem? ..).symm.trans e0
        clear e0
        first | rfl | (go_simp <;> exact IntWalk.i64_in _ (by omega))
      · intro a' w' K hI hd hq hK
        have e13 : a'.eval (.tmp 13) = .pointer (some ⟨p, 0, none⟩) := (hd 0 13 (by kernel_rfl))
        clear hd hq
        refine op_value (wanted_free _ _ (by rfl)) (v := .pointer (some ⟨p, 0, none⟩)) (w'' := w') ?_ (hK _ _ hI (fun _ _ h => h) rfl)
        clear hK
        simp only [execOp, e13]
        have f13 : a'.tmps[13]?.getD undef = .pointer (some ⟨p, 0, none⟩) := (Array.getD_eq_getD_getElem? ..).symm.trans e13
        clear e13
        first | rfl | (go_simp <;> exact IntWalk.i64_in _ (by omega))
      · intro a' w' K hI hd hq hK
        have e14 : a'.eval (.tmp 14) = .pointer (some ⟨p, 0, none⟩) := (hd 1 14 (by kernel_rfl))
        clear hd hq
        refine op_value (wanted_free _ _ (by rfl)) (v := .pointer (some ⟨p, 1, none⟩)) (w'' := w') ?_ (hK _ _ hI (fun _ _ h => h) rfl)
        clear hK
        simp only [execOp, e14]
        have f14 : a'.tmps[14]?.getD undef = .pointer (some ⟨p, 0, none⟩) := (Array.getD_eq_getD_getElem? ..).symm.trans e14
        clear e14
        first | rfl | (go_simp <;> exact IntWalk.i64_in _ (by omega))
      · intro a' w' K hI hd hq hK
        have e15 : a'.eval (.tmp 15) = .pointer (some ⟨p, 1, none⟩) := (hd 2 15 (by kernel_rfl))
        clear hd hq
        refine op_value (wanted_free _ _ (by rfl)) (v := .pointer (some ⟨p, 1, none⟩)) (w'' := w') ?_ (hK _ _ hI (fun _ _ h => h) rfl)
        clear hK
        simp only [execOp, e15]
        have f15 : a'.tmps[15]?.getD undef = .pointer (some ⟨p, 1, none⟩) := (Array.getD_eq_getD_getElem? ..).symm.trans e15
        clear e15
        first | rfl | (go_simp <;> exact IntWalk.i64_in _ (by omega))
      · intro a' w' K hI hd hq hK
        have e16 : a'.eval (.tmp 16) = .pointer (some ⟨p, 1, none⟩) := (hd 3 16 (by kernel_rfl))
        clear hd hq
        have cx := cell_below hI P1
        refine op_value (wanted_free _ _ (by rfl)) (v := .int .i64 r0) (w'' := w') ?_ (hK _ _ hI (fun _ _ h => h) rfl)
        clear hK
        simp only [execOp, e16]
        have f16 : a'.tmps[16]?.getD undef = .pointer (some ⟨p, 1, none⟩) := (Array.getD_eq_getD_getElem? ..).symm.trans e16
        clear e16
        first | rfl | (go_simp <;> exact IntWalk.i64_in _ (by omega))
      · intro a' w' K hI hd hq hK
        have e17 : a'.eval (.tmp 17) = .int .i64 r0 := (hd 4 17 (by kernel_rfl))
        clear hd hq
        refine op_value (wanted_free _ _ (by rfl)) (v := .bool false) (w'' := w') ?_ (hK _ _ hI (fun _ _ h => h) rfl)
        clear hK
        simp only [execOp, e17]
        have f17 : a'.tmps[17]?.getD undef = .int .i64 r0 := (Array.getD_eq_getD_getElem? ..).symm.trans e17
        clear e17
        first | rfl | (go_simp <;> exact IntWalk.i64_in _ (by omega))
      · intro a' w' K hI hd hq hK
        have e18 : a'.eval (.tmp 18) = .bool false := (hd 5 18 (by kernel_rfl))
        clear hd hq
        refine op_value (wanted_free _ _ (by rfl)) (v := .bool false) (w'' := w') ?_ (hK _ _ hI (fun _ _ h => h) rfl)
        clear hK
        simp only [execOp, e18]
        have f18 : a'.tmps[18]?.getD undef = .bool false := (Array.getD_eq_getD_getElem? ..).symm.trans e18
        clear e18
        first | rfl | (go_simp <;> exact IntWalk.i64_in _ (by omega))
      · intro a' w' K hI hd hq hK
        have hg := hd 6 19 (by kernel_rfl)
        have e8 : a'.eval (.tmp 8) = .pointer (some ⟨gf, 0, none⟩) := (hq 8 (by kernel_rfl)).trans rfl
        clear hd hq
        refine op_value (wanted_on _ a' 6 19 false (by rfl) (by rfl) hg) (v := .pointer (some ⟨gf, 0, none⟩)) (w'' := w') ?_ (hK _ _ hI (fun _ _ h => h) rfl)
        clear hK
        simp only [execOp, e8]
        have f8 : a'.tmps[8]?.getD undef = .pointer (some ⟨gf, 0, none⟩) := (Array.getD_eq_getD_getElem? ..).symm.trans e8
        clear e8
        first | rfl | (go_simp <;> exact IntWalk.i64_in _ (by omega))
      · intro a' w' K hI hd hq hK
        have hg := hd 6 19 (by kernel_rfl)
        have e20 : a'.eval (.tmp 20) = .pointer (some ⟨gf, 0, none⟩) := (hd 7 20 (by kernel_rfl))
        clear hd hq
        have cx := cell_below hI G0
        refine op_value (wanted_on _ a' 6 19 false (by rfl) (by rfl) hg) (v := .int .i64 rl) (w'' := w') ?_ (hK _ _ hI (fun _ _ h => h) rfl)
        clear hK
        simp only [execOp, e20]
        have f20 : a'.tmps[20]?.getD undef = .pointer (some ⟨gf, 0, none⟩) := (Array.getD_eq_getD_getElem? ..).symm.trans e20
        clear e20
        first | rfl | (go_simp <;> exact IntWalk.i64_in _ (by omega))
      · intro a' w' K hI hd hq hK
        have hg := hd 6 19 (by kernel_rfl)
        have e0 : a'.eval (.tmp 0) = .pointer (some ⟨p, 0, none⟩) := (hq 0 (by kernel_rfl)).trans rfl
        clear hd hq
        refine op_value (wanted_on _ a' 6 19 false (by rfl) (by rfl) hg) (v := .pointer (some ⟨p, 0, none⟩)) (w'' := w') ?_ (hK _ _ hI (fun _ _ h => h) rfl)
        clear hK
        simp only [execOp, e0]
        have f0 : a'.tmps[0]?.getD undef = .pointer (some ⟨p, 0, none⟩) := (Array.getD_eq_getD_getElem? ..).symm.trans e0
        clear e0
        first | rfl | (go_simp <;> exact IntWalk.i64_in _ (by omega))
      · intro a' w' K hI hd hq hK
        have hg := hd 6 19 (by kernel_rfl)
        have e22 : a'.eval (.tmp 22) = .pointer (some ⟨p, 0, none⟩) := (hd 9 22 (by kernel_rfl))
        clear hd hq
        refine op_value (wanted_on _ a' 6 19 false (by rfl) (by rfl) hg) (v := .pointer (some ⟨p, 0, none⟩)) (w'' := w') ?_ (hK _ _ hI (fun _ _ h => h) rfl)
        clear hK
        simp only [execOp, e22]
        have f22 : a'.tmps[22]?.getD undef = .pointer (some ⟨p, 0, none⟩) := (Array.getD_eq_getD_getElem? ..).symm.trans e22
        clear e22
        first | rfl | (go_simp <;> exact IntWalk.i64_in _ (by omega))
      · intro a' w' K hI hd hq hK
        have hg := hd 6 19 (by kernel_rfl)
        have e23 : a'.eval (.tmp 23) = .pointer (some ⟨p, 0, none⟩) := (hd 10 23 (by kernel_rfl))
        clear hd hq
        refine op_value (wanted_on _ a' 6 19 false (by rfl) (by rfl) hg) (v := .pointer (some ⟨p, 1, none⟩)) (w'' := w') ?_ (hK _ _ hI (fun _ _ h => h) rfl)
        clear hK
        simp only [execOp, e23]
        have f23 : a'.tmps[23]?.getD undef = .pointer (some ⟨p, 0, none⟩) := (Array.getD_eq_getD_getElem? ..).symm.trans e23
        clear e23
        first | rfl | (go_simp <;> exact IntWalk.i64_in _ (by omega))
      · intro a' w' K hI hd hq hK
        have hg := hd 6 19 (by kernel_rfl)
        have e24 : a'.eval (.tmp 24) = .pointer (some ⟨p, 1, none⟩) := (hd 11 24 (by kernel_rfl))
        clear hd hq
        refine op_value (wanted_on _ a' 6 19 false (by rfl) (by rfl) hg) (v := .pointer (some ⟨p, 1, none⟩)) (w'' := w') ?_ (hK _ _ hI (fun _ _ h => h) rfl)
        clear hK
        simp only [execOp, e24]
        have f24 : a'.tmps[24]?.getD undef = .pointer (some ⟨p, 1, none⟩) := (Array.getD_eq_getD_getElem? ..).symm.trans e24
        clear e24
        first | rfl | (go_simp <;> exact IntWalk.i64_in _ (by omega))
      · intro a' w' K hI hd hq hK
        have hg := hd 6 19 (by kernel_rfl)
        have e25 : a'.eval (.tmp 25) = .pointer (some ⟨p, 1, none⟩) := (hd 12 25 (by kernel_rfl))
        clear hd hq
        have cx := cell_below hI P1
        refine op_value (wanted_on _ a' 6 19 false (by rfl) (by rfl) hg) (v := .int .i64 r0) (w'' := w') ?_ (hK _ _ hI (fun _ _ h => h) rfl)
        clear hK
        simp only [execOp, e25]
        have f25 : a'.tmps[25]?.getD undef = .pointer (some ⟨p, 1, none⟩) := (Array.getD_eq_getD_getElem? ..).symm.trans e25
        clear e25
        first | rfl | (go_simp <;> exact IntWalk.i64_in _ (by omega))
      · intro a' w' K hI hd hq hK
        have hg := hd 6 19 (by kernel_rfl)
        have e21 : a'.eval (.tmp 21) = .int .i64 rl := (hd 8 21 (by kernel_rfl))
        have e26 : a'.eval (.tmp 26) = .int .i64 r0 := (hd 13 26 (by kernel_rfl))
        clear hd hq
        refine op_call #[.int .i64 rl, .int .i64 r0] (wanted_on _ a' 6 19 false (by rfl) (by rfl) hg) rfl Try.func59 (by kernel_rfl) rfl (by simp [e21, e26]) ?_
        refine (compare_any rl r0 w').mono ?_
        rw [HS1.out]
        rintro e w6 ⟨rfl, rfl⟩
        exact ⟨_, rfl, hK _ _ hI (fun _ _ h => h) rfl⟩
      · intro a' w' K hI hd hq hK
        have hg := hd 6 19 (by kernel_rfl)
        have e8 : a'.eval (.tmp 8) = .pointer (some ⟨gf, 0, none⟩) := (hq 8 (by kernel_rfl)).trans rfl
        clear hd hq
        refine op_value (wanted_on _ a' 6 19 false (by rfl) (by rfl) hg) (v := .pointer (some ⟨gf, 1, none⟩)) (w'' := w') ?_ (hK _ _ hI (fun _ _ h => h) rfl)
        clear hK
        simp only [execOp, e8]
        have f8 : a'.tmps[8]?.getD undef = .pointer (some ⟨gf, 0, none⟩) := (Array.getD_eq_getD_getElem? ..).symm.trans e8
        clear e8
        first | rfl | (go_simp <;> exact IntWalk.i64_in _ (by omega))
      · intro a' w' K hI hd hq hK
        have hg := hd 6 19 (by kernel_rfl)
        have e28 : a'.eval (.tmp 28) = .pointer (some ⟨gf, 1, none⟩) := (hd 15 28 (by kernel_rfl))
        clear hd hq
        have cx := cell_below hI G1
        refine op_value (wanted_on _ a' 6 19 false (by rfl) (by rfl) hg) (v := .int .i64 nn) (w'' := w') ?_ (hK _ _ hI (fun _ _ h => h) rfl)
        clear hK
        simp only [execOp, e28]
        have f28 : a'.tmps[28]?.getD undef = .pointer (some ⟨gf, 1, none⟩) := (Array.getD_eq_getD_getElem? ..).symm.trans e28
        clear e28
        first | rfl | (go_simp <;> exact IntWalk.i64_in _ (by omega))
      · intro a' w' K hI hd hq hK
        have hg := hd 6 19 (by kernel_rfl)
        have e0 : a'.eval (.tmp 0) = .pointer (some ⟨p, 0, none⟩) := (hq 0 (by kernel_rfl)).trans rfl
        clear hd hq
        refine op_value (wanted_on _ a' 6 19 false (by rfl) (by rfl) hg) (v := .pointer (some ⟨p, 0, none⟩)) (w'' := w') ?_ (hK _ _ hI (fun _ _ h => h) rfl)
        clear hK
        simp only [execOp, e0]
        have f0 : a'.tmps[0]?.getD undef = .pointer (some ⟨p, 0, none⟩) := (Array.getD_eq_getD_getElem? ..).symm.trans e0
        clear e0
        first | rfl | (go_simp <;> exact IntWalk.i64_in _ (by omega))
      · intro a' w' K hI hd hq hK
        have hg := hd 6 19 (by kernel_rfl)
        have e30 : a'.eval (.tmp 30) = .pointer (some ⟨p, 0, none⟩) := (hd 17 30 (by kernel_rfl))
        clear hd hq
        refine op_value (wanted_on _ a' 6 19 false (by rfl) (by rfl) hg) (v := .pointer (some ⟨p, 0, none⟩)) (w'' := w') ?_ (hK _ _ hI (fun _ _ h => h) rfl)
        clear hK
        simp only [execOp, e30]
        have f30 : a'.tmps[30]?.getD undef = .pointer (some ⟨p, 0, none⟩) := (Array.getD_eq_getD_getElem? ..).symm.trans e30
        clear e30
        first | rfl | (go_simp <;> exact IntWalk.i64_in _ (by omega))
      · intro a' w' K hI hd hq hK
        have hg := hd 6 19 (by kernel_rfl)
        have e31 : a'.eval (.tmp 31) = .pointer (some ⟨p, 0, none⟩) := (hd 18 31 (by kernel_rfl))
        clear hd hq
        refine op_value (wanted_on _ a' 6 19 false (by rfl) (by rfl) hg) (v := .pointer (some ⟨p, 1, none⟩)) (w'' := w') ?_ (hK _ _ hI (fun _ _ h => h) rfl)
        clear hK
        simp only [execOp, e31]
        have f31 : a'.tmps[31]?.getD undef = .pointer (some ⟨p, 0, none⟩) := (Array.getD_eq_getD_getElem? ..).symm.trans e31
        clear e31
        first | rfl | (go_simp <;> exact IntWalk.i64_in _ (by omega))
      · intro a' w' K hI hd hq hK
        have hg := hd 6 19 (by kernel_rfl)
        have e32 : a'.eval (.tmp 32) = .pointer (some ⟨p, 1, none⟩) := (hd 19 32 (by kernel_rfl))
        clear hd hq
        refine op_value (wanted_on _ a' 6 19 false (by rfl) (by rfl) hg) (v := .pointer (some ⟨p, 2, none⟩)) (w'' := w') ?_ (hK _ _ hI (fun _ _ h => h) rfl)
        clear hK
        simp only [execOp, e32]
        have f32 : a'.tmps[32]?.getD undef = .pointer (some ⟨p, 1, none⟩) := (Array.getD_eq_getD_getElem? ..).symm.trans e32
        clear e32
        first | rfl | (go_simp <;> exact IntWalk.i64_in _ (by omega))
      · intro a' w' K hI hd hq hK
        have hg := hd 6 19 (by kernel_rfl)
        have e33 : a'.eval (.tmp 33) = .pointer (some ⟨p, 2, none⟩) := (hd 20 33 (by kernel_rfl))
        clear hd hq
        have cx := cell_below hI P2
        refine op_value (wanted_on _ a' 6 19 false (by rfl) (by rfl) hg) (v := .int .i64 c0) (w'' := w') ?_ (hK _ _ hI (fun _ _ h => h) rfl)
        clear hK
        simp only [execOp, e33]
        have f33 : a'.tmps[33]?.getD undef = .pointer (some ⟨p, 2, none⟩) := (Array.getD_eq_getD_getElem? ..).symm.trans e33
        clear e33
        first | rfl | (go_simp <;> exact IntWalk.i64_in _ (by omega))
      · intro a' w' K hI hd hq hK
        have hg := hd 6 19 (by kernel_rfl)
        have e29 : a'.eval (.tmp 29) = .int .i64 nn := (hd 16 29 (by kernel_rfl))
        have e34 : a'.eval (.tmp 34) = .int .i64 c0 := (hd 21 34 (by kernel_rfl))
        clear hd hq
        refine op_call #[.int .i64 nn, .int .i64 c0] (wanted_on _ a' 6 19 false (by rfl) (by rfl) hg) rfl Try.func59 (by kernel_rfl) rfl (by simp [e29, e34]) ?_
        refine (compare_any nn c0 w').mono ?_
        rw [HS2.out]
        rintro e w6 ⟨rfl, rfl⟩
        exact ⟨_, rfl, hK _ _ hI (fun _ _ h => h) rfl⟩
      · intro a' w' K hI hd hq hK
        have hg := hd 6 19 (by kernel_rfl)
        have e8 : a'.eval (.tmp 8) = .pointer (some ⟨gf, 0, none⟩) := (hq 8 (by kernel_rfl)).trans rfl
        clear hd hq
        refine op_value (wanted_on _ a' 6 19 false (by rfl) (by rfl) hg) (v := .pointer (some ⟨gf, 2, none⟩)) (w'' := w') ?_ (hK _ _ hI (fun _ _ h => h) rfl)
        clear hK
        simp only [execOp, e8]
        have f8 : a'.tmps[8]?.getD undef = .pointer (some ⟨gf, 0, none⟩) := (Array.getD_eq_getD_getElem? ..).symm.trans e8
        clear e8
        first | rfl | (go_simp <;> exact IntWalk.i64_in _ (by omega))
      · intro a' w' K hI hd hq hK
        have hg := hd 6 19 (by kernel_rfl)
        have e36 : a'.eval (.tmp 36) = .pointer (some ⟨gf, 2, none⟩) := (hd 23 36 (by kernel_rfl))
        clear hd hq
        have cx := cell_below hI G2
        refine op_value (wanted_on _ a' 6 19 false (by rfl) (by rfl) hg) (v := .int .i64 aa) (w'' := w') ?_ (hK _ _ hI (fun _ _ h => h) rfl)
        clear hK
        simp only [execOp, e36]
        have f36 : a'.tmps[36]?.getD undef = .pointer (some ⟨gf, 2, none⟩) := (Array.getD_eq_getD_getElem? ..).symm.trans e36
        clear e36
        first | rfl | (go_simp <;> exact IntWalk.i64_in _ (by omega))
      · intro a' w' K hI hd hq hK
        have hg := hd 6 19 (by kernel_rfl)
        have e0 : a'.eval (.tmp 0) = .pointer (some ⟨p, 0, none⟩) := (hq 0 (by kernel_rfl)).trans rfl
        clear hd hq
        refine op_value (wanted_on _ a' 6 19 false (by rfl) (by rfl) hg) (v := .pointer (some ⟨p, 0, none⟩)) (w'' := w') ?_ (hK _ _ hI (fun _ _ h => h) rfl)
        clear hK
        simp only [execOp, e0]
        have f0 : a'.tmps[0]?.getD undef = .pointer (some ⟨p, 0, none⟩) := (Array.getD_eq_getD_getElem? ..).symm.trans e0
        clear e0
        first | rfl | (go_simp <;> exact IntWalk.i64_in _ (by omega))
      · intro a' w' K hI hd hq hK
        have hg := hd 6 19 (by kernel_rfl)
        have e38 : a'.eval (.tmp 38) = .pointer (some ⟨p, 0, none⟩) := (hd 25 38 (by kernel_rfl))
        clear hd hq
        refine op_value (wanted_on _ a' 6 19 false (by rfl) (by rfl) hg) (v := .pointer (some ⟨p, 0, none⟩)) (w'' := w') ?_ (hK _ _ hI (fun _ _ h => h) rfl)
        clear hK
        simp only [execOp, e38]
        have f38 : a'.tmps[38]?.getD undef = .pointer (some ⟨p, 0, none⟩) := (Array.getD_eq_getD_getElem? ..).symm.trans e38
        clear e38
        first | rfl | (go_simp <;> exact IntWalk.i64_in _ (by omega))
      · intro a' w' K hI hd hq hK
        have hg := hd 6 19 (by kernel_rfl)
        have e39 : a'.eval (.tmp 39) = .pointer (some ⟨p, 0, none⟩) := (hd 26 39 (by kernel_rfl))
        clear hd hq
        refine op_value (wanted_on _ a' 6 19 false (by rfl) (by rfl) hg) (v := .pointer (some ⟨p, 1, none⟩)) (w'' := w') ?_ (hK _ _ hI (fun _ _ h => h) rfl)
        clear hK
        simp only [execOp, e39]
        have f39 : a'.tmps[39]?.getD undef = .pointer (some ⟨p, 0, none⟩) := (Array.getD_eq_getD_getElem? ..).symm.trans e39
        clear e39
        first | rfl | (go_simp <;> exact IntWalk.i64_in _ (by omega))
      · intro a' w' K hI hd hq hK
        have hg := hd 6 19 (by kernel_rfl)
        have e40 : a'.eval (.tmp 40) = .pointer (some ⟨p, 1, none⟩) := (hd 27 40 (by kernel_rfl))
        clear hd hq
        refine op_value (wanted_on _ a' 6 19 false (by rfl) (by rfl) hg) (v := .pointer (some ⟨p, 3, none⟩)) (w'' := w') ?_ (hK _ _ hI (fun _ _ h => h) rfl)
        clear hK
        simp only [execOp, e40]
        have f40 : a'.tmps[40]?.getD undef = .pointer (some ⟨p, 1, none⟩) := (Array.getD_eq_getD_getElem? ..).symm.trans e40
        clear e40
        first | rfl | (go_simp <;> exact IntWalk.i64_in _ (by omega))
      · intro a' w' K hI hd hq hK
        have hg := hd 6 19 (by kernel_rfl)
        have e41 : a'.eval (.tmp 41) = .pointer (some ⟨p, 3, none⟩) := (hd 28 41 (by kernel_rfl))
        clear hd hq
        have cx := cell_below hI P3
        refine op_value (wanted_on _ a' 6 19 false (by rfl) (by rfl) hg) (v := .int .i64 a0) (w'' := w') ?_ (hK _ _ hI (fun _ _ h => h) rfl)
        clear hK
        simp only [execOp, e41]
        have f41 : a'.tmps[41]?.getD undef = .pointer (some ⟨p, 3, none⟩) := (Array.getD_eq_getD_getElem? ..).symm.trans e41
        clear e41
        first | rfl | (go_simp <;> exact IntWalk.i64_in _ (by omega))
      · intro a' w' K hI hd hq hK
        have hg := hd 6 19 (by kernel_rfl)
        have e37 : a'.eval (.tmp 37) = .int .i64 aa := (hd 24 37 (by kernel_rfl))
        have e42 : a'.eval (.tmp 42) = .int .i64 a0 := (hd 29 42 (by kernel_rfl))
        clear hd hq
        refine op_call #[.int .i64 aa, .int .i64 a0] (wanted_on _ a' 6 19 false (by rfl) (by rfl) hg) rfl Try.func59 (by kernel_rfl) rfl (by simp [e37, e42]) ?_
        refine (compare_any aa a0 w').mono ?_
        rw [HS3.out]
        rintro e w6 ⟨rfl, rfl⟩
        exact ⟨_, rfl, hK _ _ hI (fun _ _ h => h) rfl⟩
      · intro a' w' K hI hd hq hK
        have hg := hd 6 19 (by kernel_rfl)
        have e27 : a'.eval (.tmp 27) = .int .i64 s1 := (hd 14 27 (by kernel_rfl))
        have e35 : a'.eval (.tmp 35) = .int .i64 s2 := (hd 22 35 (by kernel_rfl))
        have e43 : a'.eval (.tmp 43) = .int .i64 s3 := (hd 30 43 (by kernel_rfl))
        clear hd hq
        have hb : Below w'.heap.size w' (w'.alloc (.cells #[.int .i64 s1, .int .i64 s2, .int .i64 s3] 3)) := (Below.refl _ _).alloc (Nat.le_refl _) _
        refine op_buildSlice (wanted_on _ a' 6 19 false (by rfl) (by rfl) hg) 22 3 3 _ rfl Try.underlying22 #[.int .i64 s1, .int .i64 s2, .int .i64 s3] (by simp only [List.map_toArray, List.map_cons, List.map_nil, e27, e35, e43]; exact HB3.out) ?_
        have hn := heap_alloc_new w' (.cells #[.int .i64 s1, .int .i64 s2, .int .i64 s3] 3)
        exact hK _ _ (below_below hI hI.size hb) (fun j u => by match j with | 31 => exact fun ⟨g, h0, h1, h2, h3⟩ => ⟨g, h0, cell_below hb h1, cell_below hb h2, cell_below hb h3⟩ | 0 | 1 | 2 | 3 | 4 | 5 | 6 | 7 | 8 | 9 | 10 | 11 | 12 | 13 | 14 | 15 | 16 | 17 | 18 | 19 | 20 | 21 | 22 | 23 | 24 | 25 | 26 | 27 | 28 | 29 | 30 | 32 | 33 | 34 => exact fun h => h | _ + 35 => exact fun _ => trivial) ⟨w'.heap.size, rfl, (cell_of_row _ _ 0 _ _ _ hn).trans rfl, (cell_of_row _ _ 1 _ _ _ hn).trans rfl, (cell_of_row _ _ 2 _ _ _ hn).trans rfl⟩
      · intro a' w' K hI hd hq hK
        have hg := hd 6 19 (by kernel_rfl)
        have e44 := hd 31 44 (by kernel_rfl)
        clear hd hq
        obtain ⟨g, e44, q0, q1, q2⟩ := (show ∃ g, a'.eval (.tmp 44) = .slice (some ⟨g, 0, none⟩) 3 3 ∧ w'.cell? ⟨g, 0, none⟩ = some (.int .i64 s1) ∧ w'.cell? ⟨g, 1, none⟩ = some (.int .i64 s2) ∧ w'.cell? ⟨g, 2, none⟩ = some (.int .i64 s3) from e44)
        refine op_call #[.slice (some ⟨g, 0, none⟩) 3 3] (wanted_on _ a' 6 19 false (by rfl) (by rfl) hg) rfl Try.func58 (by kernel_rfl) rfl (by simp [e44]) ?_
        refine (or_any g s1 s2 s3 w' q0 q1 q2).mono ?_
        rw [HSO.out]
        rintro e w6 ⟨rfl, rfl⟩
        exact ⟨_, rfl, hK _ _ hI (fun _ _ h => h) rfl⟩
      · intro a' w' K hI hd hq hK
        have hg := hd 6 19 (by kernel_rfl)
        have e45 : a'.eval (.tmp 45) = .int .i64 so := (hd 32 45 (by kernel_rfl))
        clear hd hq
        refine op_value (wanted_on _ a' 6 19 false (by rfl) (by rfl) hg) (v := .bool bb) (w'' := w') ?_ (hK _ _ hI (fun _ _ h => h) rfl)
        clear hK hI
        simp only [execOp]
        have f45 : a'.tmps[45]?.getD undef = .int .i64 so := (Array.getD_eq_getD_getElem? ..).symm.trans e45
        clear e45
        go_simp
        rw [HBB.out]
      · intro a' w' K hI hd hq hK
        have e19 : a'.eval (.tmp 19) = .bool false := (hd 6 19 (by kernel_rfl))
        have e46 : a'.eval (.tmp 46) = .bool bb := (hd 33 46 (by kernel_rfl))
        clear hd hq
        refine op_value (wanted_free _ _ (by rfl)) (v := .bool bb) (w'' := w') ?_ (hK _ _ hI (fun _ _ h => h) rfl)
        clear hK
        simp only [execOp, e19, e46]
        have f19 : a'.tmps[19]?.getD undef = .bool false := (Array.getD_eq_getD_getElem? ..).symm.trans e19
        have f46 : a'.tmps[46]?.getD undef = .bool bb := (Array.getD_eq_getD_getElem? ..).symm.trans e46
        clear e19 e46
        first | rfl | (go_simp <;> exact IntWalk.i64_in _ (by omega))
    case fin1 =>
      rintro w' hI _ rfl _ rfl _ rfl _ rfl _ rfl _ rfl _ rfl _ rfl _ rfl _ rfl _ rfl _ rfl _ rfl _ rfl _ rfl _ rfl _ rfl _ rfl _ rfl _ rfl _ rfl _ rfl _ rfl _ rfl _ rfl _ rfl _ rfl _ rfl _ rfl _ rfl _ rfl _ ⟨gg, rfl, _⟩ _ rfl _ rfl _ rfl
      simp only [Act.put, List.setIfInBounds_toArray, List.set_cons_zero, List.set_cons_succ, FinGoal]
      have HI := Lib.hid hI
      have hfz := (FIN.out _ hI).1
      have d1 := cell_below hI P1
      have d2 := cell_below hI P2
      have d3 := cell_below hI P3
      have e0 := cell_below hI G0
      have e1 := cell_below hI G1
      have e2 := cell_below hI G2
      have f1 := hfz 1
      have f2 := hfz 2
      have f3 := hfz 3
      clear hI hfz P1 P2 P3 G0 G1 G2
      cases bb with
      | true =>
        go_wp2_with fail
        go_end0
        obtain ⟨h1, h2⟩ := HFI.out _ HI.out _ rfl
        exact ⟨rfl, by rw [HBE.out, if_pos (of_decide_eq_true HBB.out)]; exact h1, h2⟩
      | false =>
        go_wp2_with fail
        go_end0
        exact ⟨rfl, by rw [HBE.out, if_neg (of_decide_eq_false HBB.out)]; exact (FIN.out _ HI.out).2.1, HUP.out _ HI.out⟩
end Go.Proofs.Ytjakhemolecbnaa
end

/-
  The walks of the verifier's rules: twice, both, bare, strange.
-/
section
set_option linter.unusedVariables false
set_option linter.unusedSimpArgs false
namespace Go.Proofs.Ytjakhemolecbnaa
open Go.RowKit

def twiceS (l : List Rm) (m : Rm) : Bool := decide (m.kind = 3) && (l.any (ofP 3 m.tx) || l.any (ofP 4 m.tx)) || decide (m.kind = 4) && l.any (ofP 3 m.tx)
def bothS (cs : List Cm) (i : Int) (m : Rm) : Bool := decide (m.kind = 3) && othersS cs i (ofP 4 m.tx) || decide (m.kind = 4) && othersS cs i (ofP 3 m.tx)
def bareS (l : List Rm) (m : Rm) : Bool := decide (m.kind = 3) && !l.any (ofP 2 m.tx)
def strangeS (cs : List Cm) (i : Int) (gr : Int) (m : Rm) : Bool := decide (m.kind = 3) && (!decide (gr ∈ m.groups) || othersS cs i (strP m.tx m.groups))
/-- A record in a block of its own. -/
def BoxAt (w : World) (g : Nat) (m : Rm) : Prop := w.heap[g]? = some (.cells m.cells.toArray 24 (0, 0))
theorem BoxAt.below {w w' : World} {g : Nat} {m : Rm} (h : BoxAt w g m) (hb : Below w.heap.size w w') : BoxAt w' g m := (hb.block g (Array.getElem?_eq_some_iff.1 h).1).trans h
theorem BoxAt.c0 {w : World} {g : Nat} {m : Rm} (h : BoxAt w g m) : w.cell? ⟨g, 0, none⟩ = some (.int .i64 m.kind) := (cell_of_row w g 0 _ _ _ h).trans rfl
theorem BoxAt.c1 {w : World} {g : Nat} {m : Rm} (h : BoxAt w g m) : w.cell? ⟨g, 1, none⟩ = some (.string (strB m.tx)) := (cell_of_row w g 1 _ _ _ h).trans rfl
theorem BoxAt.c2 {w : World} {g : Nat} {m : Rm} (h : BoxAt w g m) : w.cell? ⟨g, 2, none⟩ = some (.slice m.A m.groups.length m.c) := (cell_of_row w g 2 _ _ _ h).trans rfl
theorem box_new (w : World) (m : Rm) : BoxAt (w.alloc (.cells m.cells.toArray 24)) w.heap.size m := heap_alloc_new w _

set_option maxHeartbeats 4000000 in
theorem bare_any (p : Nat) (vA : Option Addr) (vc : Nat) (cs : List Cm) (b : Int × Int × Int) (i at' : Nat) (c : Cm) (m : Rm) (w : World) (h : VF w p vA vc cs b) (hc : cs[i]? = some c) (ha : at' ≤ c.recs.length) :
    Calls Try.prog 30 #[.pointer (some ⟨p, 0, none⟩), .int .i64 (i : Int), .int .i64 (at' : Int), .agg m.cells.toArray] w fun e w' => e = .returned (.bool (bareS (c.recs.take at') m)) ∧ Below w.heap.size w w' := by
  have hbx := box_new w m
  have hb1 : Below w.heap.size w (w.alloc (.cells m.cells.toArray 24)) := (Below.refl _ _).alloc (Nat.le_refl _) _
  obtain ⟨w1, hw1⟩ : ∃ w1, w1 = w.alloc (.cells m.cells.toArray 24) := ⟨_, rfl⟩
  rw [← hw1] at hbx hb1
  have BX := Lib.hid hbx
  have HB1 := Lib.hid hb1
  have HW1 := Lib.hid hw1
  have HV := Lib.hid (h.below hb1)
  have HC := Lib.hid hc
  have HA := Lib.hid ha
  clear ha
  clear hbx hb1 hw1 h hc
  obtain ⟨q, hq⟩ : ∃ q, bareS (c.recs.take at') m = q := ⟨_, rfl⟩
  rw [hq]
  unfold bareS at hq
  have k0 := BX.out.c0
  have k1 := BX.out.c1
  obtain ⟨z, hz⟩ : ∃ z, z = strB m.tx := ⟨_, rfl⟩
  rw [← hz] at k1
  have HZ := Lib.hid hz
  obtain ⟨gb, hgb⟩ : ∃ gb, gb = w.heap.size := ⟨_, rfl⟩
  rw [← hgb] at k0 k1 BX
  have HGB := Lib.hid hgb
  clear hz hgb
  by_cases hk : m.kind = 3
  · have hk1 : (m.kind == 3) = true := by simpa using hk
    obtain ⟨qa, hqa⟩ : ∃ qa, (c.recs.take at').any (ofP 2 m.tx) = qa := ⟨_, rfl⟩
    have HQQ := Lib.hid (show (!qa) = q by rw [← hq, ← hqa]; simp [hk])
    have Hqa := Lib.hid hqa
    have B1 := Lib.hid (Below.refl w1.heap.size w1)
    clear hk hq hqa
    go_enter Try.func30, Try.ntmps30
    go_upto_region 1 with fail
    rw [← HW1.out, ← HGB.out]
    go_wp2_with fail
    refine (of_any 2 z w1).mono ?_
    rintro e w2 ⟨g, rfl, h1, h2, hb⟩
    rw [HZ.out] at h2
    have HFw2 := Lib.hid (And.intro h1 h2)
    have Bw2 := Lib.hid (below_below B1.out B1.out.size hb)
    have k0 := (BX.out.below Bw2.out).c0
    have k1 := (BX.out.below Bw2.out).c1
    rw [← HZ.out] at k1
    clear h1 h2 hb
    go_wp2_with fail
    refine (ahead_any p vA vc cs b i at' c g 2 m.tx w2 (HV.out.below Bw2.out) HC.out HA.out HFw2.out).mono ?_
    rw [Hqa.out]
    rintro e w3 ⟨rfl, hb⟩
    have Bw3 := Lib.hid (below_below Bw2.out Bw2.out.size hb)
    have k0 := (BX.out.below Bw3.out).c0
    have k1 := (BX.out.below Bw3.out).c1
    rw [← HZ.out] at k1
    clear hb
    go_wp2_with fail
    go_ret
    exact ⟨ret_bool HQQ.out, below_below HB1.out HB1.out.size Bw3.out⟩
  · have hk1 : (m.kind == 3) = false := by simpa using hk
    have HQQ := Lib.hid (show false = q by rw [← hq]; simp [hk])
    have Bw1 := Lib.hid (Below.refl w1.heap.size w1)
    clear hk hq
    go_enter Try.func30, Try.ntmps30
    go_upto_region 1 with fail
    rw [← HW1.out, ← HGB.out]
    go_wp2_with fail
    go_ret
    exact ⟨ret_bool HQQ.out, below_below HB1.out HB1.out.size Bw1.out⟩

set_option maxHeartbeats 4000000 in
theorem twice_any (p : Nat) (vA : Option Addr) (vc : Nat) (cs : List Cm) (b : Int × Int × Int) (i at' : Nat) (c : Cm) (m : Rm) (w : World) (h : VF w p vA vc cs b) (hc : cs[i]? = some c) (ha : at' ≤ c.recs.length) :
    Calls Try.prog 28 #[.pointer (some ⟨p, 0, none⟩), .int .i64 (i : Int), .int .i64 (at' : Int), .agg m.cells.toArray] w fun e w' => e = .returned (.bool (twiceS (c.recs.take at') m)) ∧ Below w.heap.size w w' := by
  have hbx := box_new w m
  have hb1 : Below w.heap.size w (w.alloc (.cells m.cells.toArray 24)) := (Below.refl _ _).alloc (Nat.le_refl _) _
  obtain ⟨w1, hw1⟩ : ∃ w1, w1 = w.alloc (.cells m.cells.toArray 24) := ⟨_, rfl⟩
  rw [← hw1] at hbx hb1
  have BX := Lib.hid hbx
  have HB1 := Lib.hid hb1
  have HW1 := Lib.hid hw1
  have HV := Lib.hid (h.below hb1)
  have HC := Lib.hid hc
  have HA := Lib.hid ha
  clear ha
  clear hbx hb1 hw1 h hc
  obtain ⟨q, hq⟩ : ∃ q, twiceS (c.recs.take at') m = q := ⟨_, rfl⟩
  rw [hq]
  unfold twiceS at hq
  have k0 := BX.out.c0
  have k1 := BX.out.c1
  obtain ⟨z, hz⟩ : ∃ z, z = strB m.tx := ⟨_, rfl⟩
  rw [← hz] at k1
  have HZ := Lib.hid hz
  obtain ⟨gb, hgb⟩ : ∃ gb, gb = w.heap.size := ⟨_, rfl⟩
  rw [← hgb] at k0 k1 BX
  have HGB := Lib.hid hgb
  clear hz hgb
  obtain ⟨qa, hqa⟩ : ∃ qa, (c.recs.take at').any (ofP 3 m.tx) = qa := ⟨_, rfl⟩
  obtain ⟨qb, hqb⟩ : ∃ qb, (c.recs.take at').any (ofP 4 m.tx) = qb := ⟨_, rfl⟩
  rw [hqa, hqb] at hq
  have Hqa := Lib.hid hqa
  have Hqb := Lib.hid hqb
  have B1 := Lib.hid (Below.refl w1.heap.size w1)
  clear hqa hqb
  go_enter Try.func28, Try.ntmps28
  go_upto_region 1 with fail
  rw [← HW1.out, ← HGB.out]
  go_wp2_with fail
  refine (of_any 3 z w1).mono ?_
  rintro e w2 ⟨g, rfl, h1, h2, hb⟩
  rw [HZ.out] at h2
  have HFw2 := Lib.hid (And.intro h1 h2)
  have Bw2 := Lib.hid (below_below B1.out B1.out.size hb)
  have k0 := (BX.out.below Bw2.out).c0
  have k1 := (BX.out.below Bw2.out).c1
  rw [← HZ.out] at k1
  clear h1 h2 hb
  go_wp2_with fail
  refine (ahead_any p vA vc cs b i at' c g 3 m.tx w2 (HV.out.below Bw2.out) HC.out HA.out HFw2.out).mono ?_
  rw [Hqa.out]
  rintro e w3 ⟨rfl, hb⟩
  have Bw3 := Lib.hid (below_below Bw2.out Bw2.out.size hb)
  have k0 := (BX.out.below Bw3.out).c0
  have k1 := (BX.out.below Bw3.out).c1
  rw [← HZ.out] at k1
  clear hb
  by_cases hk : m.kind = 3
  · have hk1 : (m.kind == 3) = true := by simpa using hk
    have hk2 : (m.kind == 4) = false := by rw [hk]; rfl
    cases qa with
    | true =>
      have HQQ := Lib.hid (show true = q by rw [← hq]; simp [hk])
      clear hk hq
      go_wp2_with fail
      go_ret
      exact ⟨ret_bool HQQ.out, below_below HB1.out HB1.out.size Bw3.out⟩
    | false =>
      have HQQ := Lib.hid (show qb = q by rw [← hq]; simp [hk])
      clear hk hq
      go_wp2_with fail
      refine (of_any 4 z w3).mono ?_
      rintro e w4 ⟨g, rfl, h1, h2, hb⟩
      rw [HZ.out] at h2
      have HFw4 := Lib.hid (And.intro h1 h2)
      have Bw4 := Lib.hid (below_below Bw3.out Bw3.out.size hb)
      have k0 := (BX.out.below Bw4.out).c0
      have k1 := (BX.out.below Bw4.out).c1
      rw [← HZ.out] at k1
      clear h1 h2 hb
      go_wp2_with fail
      refine (ahead_any p vA vc cs b i at' c g 4 m.tx w4 (HV.out.below Bw4.out) HC.out HA.out HFw4.out).mono ?_
      rw [Hqb.out]
      rintro e w5 ⟨rfl, hb⟩
      have Bw5 := Lib.hid (below_below Bw4.out Bw4.out.size hb)
      have k0 := (BX.out.below Bw5.out).c0
      have k1 := (BX.out.below Bw5.out).c1
      rw [← HZ.out] at k1
      clear hb
      cases qb
      all_goals
        go_wp2_with fail
        go_ret
        exact ⟨ret_bool HQQ.out, below_below HB1.out HB1.out.size Bw5.out⟩
  · have hk1 : (m.kind == 3) = false := by simpa using hk
    by_cases hk4 : m.kind = 4
    · have hk2 : (m.kind == 4) = true := by simpa using hk4
      have HQQ := Lib.hid (show qa = q by rw [← hq]; simp [hk4])
      clear hk hk4 hq
      cases qa
      all_goals
        go_wp2_with fail
        go_ret
        exact ⟨ret_bool HQQ.out, below_below HB1.out HB1.out.size Bw3.out⟩
    · have hk2 : (m.kind == 4) = false := by simpa using hk4
      have HQQ := Lib.hid (show false = q by rw [← hq]; simp [hk, hk4])
      clear hk hk4 hq
      go_wp2_with fail
      go_ret
      exact ⟨ret_bool HQQ.out, below_below HB1.out HB1.out.size Bw3.out⟩

set_option maxHeartbeats 4000000 in
theorem both_any (p : Nat) (vA : Option Addr) (vc : Nat) (cs : List Cm) (b : Int × Int × Int) (i at' : Nat) (c : Cm) (m : Rm) (w : World) (h : VF w p vA vc cs b) (hc : cs[i]? = some c) :
    Calls Try.prog 29 #[.pointer (some ⟨p, 0, none⟩), .int .i64 (i : Int), .int .i64 (at' : Int), .agg m.cells.toArray] w fun e w' => e = .returned (.bool (bothS cs (i : Int) m)) ∧ Below w.heap.size w w' := by
  have hbx := box_new w m
  have hb1 : Below w.heap.size w (w.alloc (.cells m.cells.toArray 24)) := (Below.refl _ _).alloc (Nat.le_refl _) _
  obtain ⟨w1, hw1⟩ : ∃ w1, w1 = w.alloc (.cells m.cells.toArray 24) := ⟨_, rfl⟩
  rw [← hw1] at hbx hb1
  have BX := Lib.hid hbx
  have HB1 := Lib.hid hb1
  have HW1 := Lib.hid hw1
  have HV := Lib.hid (h.below hb1)
  have HC := Lib.hid hc
  clear hbx hb1 hw1 h hc
  obtain ⟨q, hq⟩ : ∃ q, bothS cs (i : Int) m = q := ⟨_, rfl⟩
  rw [hq]
  unfold bothS at hq
  have k0 := BX.out.c0
  have k1 := BX.out.c1
  obtain ⟨z, hz⟩ : ∃ z, z = strB m.tx := ⟨_, rfl⟩
  rw [← hz] at k1
  have HZ := Lib.hid hz
  obtain ⟨gb, hgb⟩ : ∃ gb, gb = w.heap.size := ⟨_, rfl⟩
  rw [← hgb] at k0 k1 BX
  have HGB := Lib.hid hgb
  clear hz hgb
  obtain ⟨qa, hqa⟩ : ∃ qa, othersS cs (i : Int) (ofP 4 m.tx) = qa := ⟨_, rfl⟩
  obtain ⟨qb, hqb⟩ : ∃ qb, othersS cs (i : Int) (ofP 3 m.tx) = qb := ⟨_, rfl⟩
  rw [hqa, hqb] at hq
  have Hqa := Lib.hid hqa
  have Hqb := Lib.hid hqb
  have B1 := Lib.hid (Below.refl w1.heap.size w1)
  have Bw1 := Lib.hid (Below.refl w1.heap.size w1)
  clear hqa hqb
  by_cases hk : m.kind = 3
  · have hk1 : (m.kind == 3) = true := by simpa using hk
    have hk2 : (m.kind == 4) = false := by rw [hk]; rfl
    have HQQ := Lib.hid (show qa = q by rw [← hq]; simp [hk])
    clear hk hq
    go_enter Try.func29, Try.ntmps29
    go_upto_region 1 with fail
    rw [← HW1.out, ← HGB.out]
    go_wp2_with fail
    refine (of_any 4 z w1).mono ?_
    rintro e w2 ⟨g, rfl, h1, h2, hb⟩
    rw [HZ.out] at h2
    have HFw2 := Lib.hid (And.intro h1 h2)
    have Bw2 := Lib.hid (below_below B1.out B1.out.size hb)
    have k0 := (BX.out.below Bw2.out).c0
    have k1 := (BX.out.below Bw2.out).c1
    rw [← HZ.out] at k1
    clear h1 h2 hb
    go_wp2_with fail
    refine (othersOf_any p vA vc cs b (i : Int) g 4 m.tx w2 (HV.out.below Bw2.out) HFw2.out).mono ?_
    rw [Hqa.out]
    rintro e w3 ⟨rfl, hb⟩
    have Bw3 := Lib.hid (below_below Bw2.out Bw2.out.size hb)
    have k0 := (BX.out.below Bw3.out).c0
    have k1 := (BX.out.below Bw3.out).c1
    rw [← HZ.out] at k1
    clear hb
    cases qa
    all_goals
      go_wp2_with fail
      go_ret
      exact ⟨ret_bool HQQ.out, below_below HB1.out HB1.out.size Bw3.out⟩
  · have hk1 : (m.kind == 3) = false := by simpa using hk
    by_cases hk4 : m.kind = 4
    · have hk2 : (m.kind == 4) = true := by simpa using hk4
      have HQQ := Lib.hid (show qb = q by rw [← hq]; simp [hk4])
      clear hk hk4 hq
      go_enter Try.func29, Try.ntmps29
      go_upto_region 1 with fail
      rw [← HW1.out, ← HGB.out]
      go_wp2_with fail
      refine (of_any 3 z w1).mono ?_
      rintro e w2 ⟨g, rfl, h1, h2, hb⟩
      rw [HZ.out] at h2
      have HFw2 := Lib.hid (And.intro h1 h2)
      have Bw2 := Lib.hid (below_below B1.out B1.out.size hb)
      have k0 := (BX.out.below Bw2.out).c0
      have k1 := (BX.out.below Bw2.out).c1
      rw [← HZ.out] at k1
      clear h1 h2 hb
      go_wp2_with fail
      refine (othersOf_any p vA vc cs b (i : Int) g 3 m.tx w2 (HV.out.below Bw2.out) HFw2.out).mono ?_
      rw [Hqb.out]
      rintro e w3 ⟨rfl, hb⟩
      have Bw3 := Lib.hid (below_below Bw2.out Bw2.out.size hb)
      have k0 := (BX.out.below Bw3.out).c0
      have k1 := (BX.out.below Bw3.out).c1
      rw [← HZ.out] at k1
      clear hb
      cases qb
      all_goals
        go_wp2_with fail
        go_ret
        exact ⟨ret_bool HQQ.out, below_below HB1.out HB1.out.size Bw3.out⟩
    · have hk2 : (m.kind == 4) = false := by simpa using hk4
      have HQQ := Lib.hid (show false = q by rw [← hq]; simp [hk, hk4])
      clear hk hk4 hq
      go_enter Try.func29, Try.ntmps29
      go_upto_region 1 with fail
      rw [← HW1.out, ← HGB.out]
      go_wp2_with fail
      go_ret
      exact ⟨ret_bool HQQ.out, below_below HB1.out HB1.out.size Bw1.out⟩

end Go.Proofs.Ytjakhemolecbnaa
end

/-
  An operation whose guard is off is not wanted; a function value that is made.
-/
section
set_option linter.unusedVariables false
set_option linter.unusedSimpArgs false
namespace Go.Proofs.Ytjakhemolecbnaa
open Go.RowKit
variable {P : Program} {ops : Array Oper} {Q : Exit → Act → World → Prop}
theorem wanted_off (o : Oper) (a' : Act) (j t : Nat) (b : Bool) (h : o.guard = some (j, b)) (ht : (ops[j]?).bind (·.dst) = some t) (hv : a'.tmps.getD t undef = .bool (!b)) : Region.wanted o (yielded ops a'.tmps) = false := by
  cases ho : ops[j]? with
  | none => rw [ho] at ht; cases ht
  | some oj =>
    rw [ho] at ht
    have ht' : oj.dst = some t := ht
    rw [Array.getD_eq_getD_getElem?] at hv
    cases hx : a'.tmps[t]? with
    | none => rw [hx] at hv; cases b <;> simp [undef] at hv
    | some u =>
      rw [hx] at hv
      have hv' : u = .bool (!b) := hv
      cases b <;> simp [Region.wanted, h, yielded, ho, ht', hx, hv']
theorem run_makeFunc (fn : Fn) (first cap : Array Value) (w : World) : (Instr.makeFunc fn first cap).run P w = .ok (.func fn first cap) w := rfl
/-- A function value that is made. -/
theorem op_makeFunc {a' : Act} {w' : World} {K : Act → World → Prop} {o : Oper} (fn : Fn) (xs ys : Array Operand) (hw : Region.wanted o (yielded ops a'.tmps) = true) (hop : o.op = .makeFunc fn xs ys)
    (hK : K (a'.put o.dst (.func fn (xs.map a'.eval) (ys.map a'.eval))) w') :
    if Region.wanted o (yielded ops a'.tmps) = true then o.wp P a' w' K Q else K (a'.put o.dst undef) w' := by
  rw [if_pos hw]
  unfold Oper.wp
  have hrun : (execOp a'.eval o).run P w' = .ok (.value (.func fn (xs.map a'.eval) (ys.map a'.eval))) w' := by
    unfold execOp
    rw [hop]
    rfl
  rw [hrun]
  exact hK
/-- A store and the like: no value. -/
theorem op_skip {a' : Act} {w' w'' : World} {K : Act → World → Prop} {o : Oper} (hw : Region.wanted o (yielded ops a'.tmps) = true) (hdst : o.dst = none) (hrun : (execOp a'.eval o).run P w' = .ok .skip w'') (hK : K (a'.put o.dst undef) w'') :
    if Region.wanted o (yielded ops a'.tmps) = true then o.wp P a' w' K Q else K (a'.put o.dst undef) w' := by
  rw [if_pos hw]
  unfold Oper.wp
  rw [hrun]
  exact hK
end Go.Proofs.Ytjakhemolecbnaa
end

/-
  The walk of the verifier's strange.
-/
section
set_option linter.unusedVariables false
set_option linter.unusedSimpArgs false
namespace Go.Proofs.Ytjakhemolecbnaa
open Go.RowKit

set_option maxRecDepth 100000 in
set_option maxHeartbeats 4000000 in
theorem strange_any (p : Nat) (vA : Option Addr) (vc : Nat) (cs : List Cm) (b : Int × Int × Int) (i : Nat) (at' : Int) (c : Cm) (m : Rm) (w : World) (h : VF w p vA vc cs b) (hc : cs[i]? = some c) (hg : RG w m.A m.groups) (hl : m.groups.length ≤ 100000000) :
    Calls Try.prog 31 #[.pointer (some ⟨p, 0, none⟩), .int .i64 (i : Int), .int .i64 at', .agg m.cells.toArray] w fun e w' => e = .returned (.bool (strangeS cs i c.group m)) ∧ Below w.heap.size w w' := by
  have hbx := box_new w m
  have hb1 : Below w.heap.size w (w.alloc (.cells m.cells.toArray 24)) := (Below.refl _ _).alloc (Nat.le_refl _) _
  obtain ⟨w1, hw1⟩ : ∃ w1, w1 = w.alloc (.cells m.cells.toArray 24) := ⟨_, rfl⟩
  rw [← hw1] at hbx hb1
  obtain ⟨bv, ov, rfl, hp⟩ := (h.below hb1).part hc
  have hi := (List.getElem?_eq_some_iff.1 hc).1
  have i0 : (0 : Int) ≤ (i : Int) := by omega
  have i1 : (i : Int) < (cs.length : Int) := by omega
  have hln := h.len
  have BX := Lib.hid hbx
  have HB1 := Lib.hid hb1
  have HW1 := Lib.hid hw1
  have HV := Lib.hid (h.below hb1)
  have HG := Lib.hid (hg.below hb1)
  have HL := Lib.hid hl
  have HP := Lib.hid hp
  clear hbx hb1 hw1 h hc hg hl hp hi
  obtain ⟨q, hq⟩ : ∃ q, strangeS cs i c.group m = q := ⟨_, rfl⟩
  rw [hq]
  unfold strangeS at hq
  have k0 := BX.out.c0
  have k1 := BX.out.c1
  have k2 := BX.out.c2
  have HST := Lib.hid (show StAt w1 w.heap.size m.tx m.A m.c m.groups from ⟨k1, k2, HG.out⟩)
  clear k1
  obtain ⟨gb, hgb⟩ : ∃ gb, gb = w.heap.size := ⟨_, rfl⟩
  rw [← hgb] at k0 k2 BX HST
  have HGB := Lib.hid hgb
  clear hgb
  have G2 := k2
  by_cases hk : m.kind = 3
  · have hk1 : (m.kind != 3) = false := by simpa using hk
    obtain ⟨q1, hq1⟩ : ∃ q1, decide (c.group ∈ m.groups) = q1 := ⟨_, rfl⟩
    obtain ⟨q2, hq2⟩ : ∃ q2, othersS cs i (strP m.tx m.groups) = q2 := ⟨_, rfl⟩
    rw [hq1, hq2] at hq
    have HQ := Lib.hid (show (!q1 || q2) = q by rw [← hq]; simp [hk])
    have HQ1 := Lib.hid hq1
    have HQ2 := Lib.hid hq2
    clear hk hq hq1 hq2
    go_enter Try.func31, Try.ntmps31
    go_upto_region 1 with fail
    rw [← HW1.out, ← HGB.out]
    go_upto_region 3 with fail
    cases q1 with
    | false =>
      refine region_by (fun W => Below w1.heap.size w1 W) [(fun v _ => v = .pointer (some ⟨gb, 2, none⟩)), (fun v _ => v = .slice m.A m.groups.length m.c), (fun v _ => v = .pointer (some ⟨p, 0, none⟩)), (fun v _ => v = .pointer (some ⟨p, 0, none⟩)), (fun v _ => v = .pointer (some ⟨p, 0, none⟩)), (fun v _ => v = .slice (some ⟨bv, ov, none⟩) cs.length vc), (fun v _ => v = .int .i64 (i : Int)), (fun v _ => v = .pointer (some ⟨bv, ov + i * 6, none⟩)), (fun v _ => v = .pointer (some ⟨bv, ov + i * 6, none⟩)), (fun v _ => v = .int .i64 c.group), fun v _ => v = .bool false, (fun v _ => v = .bool true), (fun v _ => v = .bool true), (fun v _ => v = undef), (fun v _ => v = undef), (fun v _ => v = undef), (fun v _ => v = undef), (fun v _ => v = .bool true), (fun v _ => v = .bool true)] (by kernel_rfl) (by kernel_rfl) (by kernel_rfl) rfl ((Below.refl _ _).drew) ?ok3 ?fin3
      case ok3 =>
        refine ⟨?_, ?_, ?_, ?_, ?_, ?_, ?_, ?_, ?_, ?_, ?_, ?_, ?_, ?_, ?_, ?_, ?_, ?_, ?_, trivial⟩
        · intro a' w' K hI hd hq hK
          have e7 : a'.eval (.tmp 7) = .pointer (some ⟨gb, 0, none⟩) := (hq 7 (by kernel_rfl)).trans rfl
          clear hd hq
          refine op_value (wanted_free _ _ (by rfl)) (v := .pointer (some ⟨gb, 2, none⟩)) (w'' := w') ?_ (hK _ _ hI (fun _ _ h => h) rfl)
          clear hK
          simp only [execOp, e7]
          have f7 : a'.tmps[7]?.getD undef = .pointer (some ⟨gb, 0, none⟩) := (Array.getD_eq_getD_getElem? ..).symm.trans e7
          clear e7
          first | rfl | (go_simp <;> exact IntWalk.i64_in _ (by omega))
        · intro a' w' K hI hd hq hK
          have e12 : a'.eval (.tmp 12) = .pointer (some ⟨gb, 2, none⟩) := (hd 0 12 (by kernel_rfl))
          clear hd hq
          have cx := cell_below hI G2
          refine op_value (wanted_free _ _ (by rfl)) (v := .slice m.A m.groups.length m.c) (w'' := w') ?_ (hK _ _ hI (fun _ _ h => h) rfl)
          clear hK
          simp only [execOp, e12]
          have f12 : a'.tmps[12]?.getD undef = .pointer (some ⟨gb, 2, none⟩) := (Array.getD_eq_getD_getElem? ..).symm.trans e12
          clear e12
          first | rfl | (go_simp <;> exact IntWalk.i64_in _ (by omega))
        · intro a' w' K hI hd hq hK
          have e0 : a'.eval (.tmp 0) = .pointer (some ⟨p, 0, none⟩) := (hq 0 (by kernel_rfl)).trans rfl
          clear hd hq
          refine op_value (wanted_free _ _ (by rfl)) (v := .pointer (some ⟨p, 0, none⟩)) (w'' := w') ?_ (hK _ _ hI (fun _ _ h => h) rfl)
          clear hK
          simp only [execOp, e0]
          have f0 : a'.tmps[0]?.getD undef = .pointer (some ⟨p, 0, none⟩) := (Array.getD_eq_getD_getElem? ..).symm.trans e0
          clear e0
          first | rfl | (go_simp <;> exact IntWalk.i64_in _ (by omega))
        · intro a' w' K hI hd hq hK
          have e14 : a'.eval (.tmp 14) = .pointer (some ⟨p, 0, none⟩) := (hd 2 14 (by kernel_rfl))
          clear hd hq
          refine op_value (wanted_free _ _ (by rfl)) (v := .pointer (some ⟨p, 0, none⟩)) (w'' := w') ?_ (hK _ _ hI (fun _ _ h => h) rfl)
          clear hK
          simp only [execOp, e14]
          have f14 : a'.tmps[14]?.getD undef = .pointer (some ⟨p, 0, none⟩) := (Array.getD_eq_getD_getElem? ..).symm.trans e14
          clear e14
          first | rfl | (go_simp <;> exact IntWalk.i64_in _ (by omega))
        · intro a' w' K hI hd hq hK
          have e15 : a'.eval (.tmp 15) = .pointer (some ⟨p, 0, none⟩) := (hd 3 15 (by kernel_rfl))
          clear hd hq
          refine op_value (wanted_free _ _ (by rfl)) (v := .pointer (some ⟨p, 0, none⟩)) (w'' := w') ?_ (hK _ _ hI (fun _ _ h => h) rfl)
          clear hK
          simp only [execOp, e15]
          have f15 : a'.tmps[15]?.getD undef = .pointer (some ⟨p, 0, none⟩) := (Array.getD_eq_getD_getElem? ..).symm.trans e15
          clear e15
          first | rfl | (go_simp <;> exact IntWalk.i64_in _ (by omega))
        · intro a' w' K hI hd hq hK
          have e16 : a'.eval (.tmp 16) = .pointer (some ⟨p, 0, none⟩) := (hd 4 16 (by kernel_rfl))
          clear hd hq
          have cx := (HV.out.below hI).c0
          refine op_value (wanted_free _ _ (by rfl)) (v := .slice (some ⟨bv, ov, none⟩) cs.length vc) (w'' := w') ?_ (hK _ _ hI (fun _ _ h => h) rfl)
          clear hK
          simp only [execOp, e16]
          have f16 : a'.tmps[16]?.getD undef = .pointer (some ⟨p, 0, none⟩) := (Array.getD_eq_getD_getElem? ..).symm.trans e16
          clear e16
          first | rfl | (go_simp <;> exact IntWalk.i64_in _ (by omega))
        · intro a' w' K hI hd hq hK
          have e1 : a'.eval (.tmp 1) = .int .i64 (i : Int) := (hq 1 (by kernel_rfl)).trans rfl
          clear hd hq
          refine op_value (wanted_free _ _ (by rfl)) (v := .int .i64 (i : Int)) (w'' := w') ?_ (hK _ _ hI (fun _ _ h => h) rfl)
          clear hK
          simp only [execOp, e1]
          have f1 : a'.tmps[1]?.getD undef = .int .i64 (i : Int) := (Array.getD_eq_getD_getElem? ..).symm.trans e1
          clear e1
          first | rfl | (go_simp <;> exact IntWalk.i64_in _ (by omega))
        · intro a' w' K hI hd hq hK
          have e17 : a'.eval (.tmp 17) = .slice (some ⟨bv, ov, none⟩) cs.length vc := (hd 5 17 (by kernel_rfl))
          have e18 : a'.eval (.tmp 18) = .int .i64 (i : Int) := (hd 6 18 (by kernel_rfl))
          clear hd hq
          refine op_value (wanted_free _ _ (by rfl)) (v := .pointer (some ⟨bv, ov + i * 6, none⟩)) (w'' := w') ?_ (hK _ _ hI (fun _ _ h => h) rfl)
          clear hK
          simp only [execOp, e17, e18]
          have f17 : a'.tmps[17]?.getD undef = .slice (some ⟨bv, ov, none⟩) cs.length vc := (Array.getD_eq_getD_getElem? ..).symm.trans e17
          have f18 : a'.tmps[18]?.getD undef = .int .i64 (i : Int) := (Array.getD_eq_getD_getElem? ..).symm.trans e18
          clear e17 e18
          first | rfl | (go_simp <;> exact IntWalk.i64_in _ (by omega))
        · intro a' w' K hI hd hq hK
          have e19 : a'.eval (.tmp 19) = .pointer (some ⟨bv, ov + i * 6, none⟩) := (hd 7 19 (by kernel_rfl))
          clear hd hq
          refine op_value (wanted_free _ _ (by rfl)) (v := .pointer (some ⟨bv, ov + i * 6, none⟩)) (w'' := w') ?_ (hK _ _ hI (fun _ _ h => h) rfl)
          clear hK
          simp only [execOp, e19]
          have f19 : a'.tmps[19]?.getD undef = .pointer (some ⟨bv, ov + i * 6, none⟩) := (Array.getD_eq_getD_getElem? ..).symm.trans e19
          clear e19
          first | rfl | (go_simp <;> exact IntWalk.i64_in _ (by omega))
        · intro a' w' K hI hd hq hK
          have e20 : a'.eval (.tmp 20) = .pointer (some ⟨bv, ov + i * 6, none⟩) := (hd 8 20 (by kernel_rfl))
          clear hd hq
          have cx := (HP.out _ hI).1
          refine op_value (wanted_free _ _ (by rfl)) (v := .int .i64 c.group) (w'' := w') ?_ (hK _ _ hI (fun _ _ h => h) rfl)
          clear hK
          simp only [execOp, e20]
          have f20 : a'.tmps[20]?.getD undef = .pointer (some ⟨bv, ov + i * 6, none⟩) := (Array.getD_eq_getD_getElem? ..).symm.trans e20
          clear e20
          first | rfl | (go_simp <;> exact IntWalk.i64_in _ (by omega))
        · intro a' w' K hI hd hq hK
          have e13 : a'.eval (.tmp 13) = .slice m.A m.groups.length m.c := (hd 1 13 (by kernel_rfl))
          have e21 : a'.eval (.tmp 21) = .int .i64 c.group := (hd 9 21 (by kernel_rfl))
          clear hd hq
          refine op_call #[.slice m.A m.groups.length m.c, .int .i64 c.group] (wanted_free _ _ (by rfl)) rfl Try.func55 (by kernel_rfl) rfl (by simp [e13, e21]) ?_
          refine (contains_any m.A m.groups.length m.c m.groups c.group w' rfl HL.out (HG.out.below hI)).mono ?_
          rw [HQ1.out]
          rintro e w6 ⟨rfl, rfl⟩
          exact ⟨_, rfl, hK _ _ hI (fun _ _ h => h) rfl⟩
        · intro a' w' K hI hd hq hK
          have e22 : a'.eval (.tmp 22) = .bool false := (hd 10 22 (by kernel_rfl))
          clear hd hq
          refine op_value (wanted_free _ _ (by rfl)) (v := .bool true) (w'' := w') ?_ (hK _ _ hI (fun _ _ h => h) rfl)
          clear hK
          simp only [execOp, e22]
          have f22 : a'.tmps[22]?.getD undef = .bool false := (Array.getD_eq_getD_getElem? ..).symm.trans e22
          clear e22
          first | rfl | (go_simp <;> exact IntWalk.i64_in _ (by omega))
        · intro a' w' K hI hd hq hK
          have e23 : a'.eval (.tmp 23) = .bool true := (hd 11 23 (by kernel_rfl))
          clear hd hq
          refine op_value (wanted_free _ _ (by rfl)) (v := .bool true) (w'' := w') ?_ (hK _ _ hI (fun _ _ h => h) rfl)
          clear hK
          simp only [execOp, e23]
          have f23 : a'.tmps[23]?.getD undef = .bool true := (Array.getD_eq_getD_getElem? ..).symm.trans e23
          clear e23
          first | rfl | (go_simp <;> exact IntWalk.i64_in _ (by omega))
        · intro a' w' K hI hd hq hK
          have hg := hd 12 24 (by kernel_rfl)
          rw [if_neg (by rw [wanted_off _ a' 12 24 false (by rfl) (by rfl) hg]; decide)]
          exact hK _ _ hI (fun _ _ h => h) rfl
        · intro a' w' K hI hd hq hK
          have hg := hd 12 24 (by kernel_rfl)
          rw [if_neg (by rw [wanted_off _ a' 12 24 false (by rfl) (by rfl) hg]; decide)]
          exact hK _ _ hI (fun _ _ h => h) rfl
        · intro a' w' K hI hd hq hK
          have hg := hd 12 24 (by kernel_rfl)
          rw [if_neg (by rw [wanted_off _ a' 12 24 false (by rfl) (by rfl) hg]; decide)]
          exact hK _ _ hI (fun _ _ h => h) rfl
        · intro a' w' K hI hd hq hK
          have hg := hd 12 24 (by kernel_rfl)
          rw [if_neg (by rw [wanted_off _ a' 12 24 false (by rfl) (by rfl) hg]; decide)]
          exact hK _ _ hI (fun _ _ h => h) rfl
        · intro a' w' K hI hd hq hK
          have e24 : a'.eval (.tmp 24) = .bool true := (hd 12 24 (by kernel_rfl))
          have e28 : a'.eval (.tmp 28) = undef := (hd 16 28 (by kernel_rfl))
          clear hd hq
          refine op_value (wanted_free _ _ (by rfl)) (v := .bool true) (w'' := w') ?_ (hK _ _ hI (fun _ _ h => h) rfl)
          clear hK
          simp only [execOp, e24, e28]
          have f24 : a'.tmps[24]?.getD undef = .bool true := (Array.getD_eq_getD_getElem? ..).symm.trans e24
          have f28 : a'.tmps[28]?.getD undef = undef := (Array.getD_eq_getD_getElem? ..).symm.trans e28
          clear e24 e28
          first | rfl | (go_simp <;> exact IntWalk.i64_in _ (by omega))
        · intro a' w' K hI hd hq hK
          have e29 : a'.eval (.tmp 29) = .bool true := (hd 17 29 (by kernel_rfl))
          clear hd hq
          refine op_value (wanted_free _ _ (by rfl)) (v := .bool true) (w'' := w') ?_ (hK _ _ hI (fun _ _ h => h) rfl)
          clear hK
          simp only [execOp, e29]
          have f29 : a'.tmps[29]?.getD undef = .bool true := (Array.getD_eq_getD_getElem? ..).symm.trans e29
          clear e29
          first | rfl | (go_simp <;> exact IntWalk.i64_in _ (by omega))
      case fin3 =>
        rintro w' hI _ rfl _ rfl _ rfl _ rfl _ rfl _ rfl _ rfl _ rfl _ rfl _ rfl _ rfl _ rfl _ rfl _ rfl _ rfl _ rfl _ rfl _ rfl _ rfl
        simp only [Act.put, List.setIfInBounds_toArray, List.set_cons_zero, List.set_cons_succ, FinGoal]
        have HI := Lib.hid hI
        clear hI
        go_wp2_with fail
        go_ret
        exact ⟨ret_bool (by rw [← HQ.out]; rfl), below_below HB1.out HB1.out.size HI.out⟩
    | true =>
      refine region_by (fun W => Below w1.heap.size w1 W) [(fun v _ => v = .pointer (some ⟨gb, 2, none⟩)), (fun v _ => v = .slice m.A m.groups.length m.c), (fun v _ => v = .pointer (some ⟨p, 0, none⟩)), (fun v _ => v = .pointer (some ⟨p, 0, none⟩)), (fun v _ => v = .pointer (some ⟨p, 0, none⟩)), (fun v _ => v = .slice (some ⟨bv, ov, none⟩) cs.length vc), (fun v _ => v = .int .i64 (i : Int)), (fun v _ => v = .pointer (some ⟨bv, ov + i * 6, none⟩)), (fun v _ => v = .pointer (some ⟨bv, ov + i * 6, none⟩)), (fun v _ => v = .int .i64 c.group), fun v _ => v = .bool true, (fun v _ => v = .bool false), (fun v _ => v = .bool false), (fun v _ => v = .pointer (some ⟨p, 0, none⟩)), (fun v _ => v = .int .i64 (i : Int)), fun v _ => v = .func (.func 56) #[] #[.pointer (some ⟨gb, 0, none⟩)], fun v _ => v = .bool q2, (fun v _ => v = .bool q2), (fun v _ => v = .bool q2)] (by kernel_rfl) (by kernel_rfl) (by kernel_rfl) rfl ((Below.refl _ _).drew) ?ok3 ?fin3
      case ok3 =>
        refine ⟨?_, ?_, ?_, ?_, ?_, ?_, ?_, ?_, ?_, ?_, ?_, ?_, ?_, ?_, ?_, ?_, ?_, ?_, ?_, trivial⟩
        · intro a' w' K hI hd hq hK
          have e7 : a'.eval (.tmp 7) = .pointer (some ⟨gb, 0, none⟩) := (hq 7 (by kernel_rfl)).trans rfl
          clear hd hq
          refine op_value (wanted_free _ _ (by rfl)) (v := .pointer (some ⟨gb, 2, none⟩)) (w'' := w') ?_ (hK _ _ hI (fun _ _ h => h) rfl)
          clear hK
          simp only [execOp, e7]
          have f7 : a'.tmps[7]?.getD undef = .pointer (some ⟨gb, 0, none⟩) := (Array.getD_eq_getD_getElem? ..).symm.trans e7
          clear e7
          first | rfl | (go_simp <;> exact IntWalk.i64_in _ (by omega))
        · intro a' w' K hI hd hq hK
          have e12 : a'.eval (.tmp 12) = .pointer (some ⟨gb, 2, none⟩) := (hd 0 12 (by kernel_rfl))
          clear hd hq
          have cx := cell_below hI G2
          refine op_value (wanted_free _ _ (by rfl)) (v := .slice m.A m.groups.length m.c) (w'' := w') ?_ (hK _ _ hI (fun _ _ h => h) rfl)
          clear hK
          simp only [execOp, e12]
          have f12 : a'.tmps[12]?.getD undef = .pointer (some ⟨gb, 2, none⟩) := (Array.getD_eq_getD_getElem? ..).symm.trans e12
          clear e12
          first | rfl | (go_simp <;> exact IntWalk.i64_in _ (by omega))
        · intro a' w' K hI hd hq hK
          have e0 : a'.eval (.tmp 0) = .pointer (some ⟨p, 0, none⟩) := (hq 0 (by kernel_rfl)).trans rfl
          clear hd hq
          refine op_value (wanted_free _ _ (by rfl)) (v := .pointer (some ⟨p, 0, none⟩)) (w'' := w') ?_ (hK _ _ hI (fun _ _ h => h) rfl)
          clear hK
          simp only [execOp, e0]
          have f0 : a'.tmps[0]?.getD undef = .pointer (some ⟨p, 0, none⟩) := (Array.getD_eq_getD_getElem? ..).symm.trans e0
          clear e0
          first | rfl | (go_simp <;> exact IntWalk.i64_in _ (by omega))
        · intro a' w' K hI hd hq hK
          have e14 : a'.eval (.tmp 14) = .pointer (some ⟨p, 0, none⟩) := (hd 2 14 (by kernel_rfl))
          clear hd hq
          refine op_value (wanted_free _ _ (by rfl)) (v := .pointer (some ⟨p, 0, none⟩)) (w'' := w') ?_ (hK _ _ hI (fun _ _ h => h) rfl)
          clear hK
          simp only [execOp, e14]
          have f14 : a'.tmps[14]?.getD undef = .pointer (some ⟨p, 0, none⟩) := (Array.getD_eq_getD_getElem? ..).symm.trans e14
          clear e14
          first | rfl | (go_simp <;> exact IntWalk.i64_in _ (by omega))
        · intro a' w' K hI hd hq hK
          have e15 : a'.eval (.tmp 15) = .pointer (some ⟨p, 0, none⟩) := (hd 3 15 (by kernel_rfl))
          clear hd hq
          refine op_value (wanted_free _ _ (by rfl)) (v := .pointer (some ⟨p, 0, none⟩)) (w'' := w') ?_ (hK _ _ hI (fun _ _ h => h) rfl)
          clear hK
          simp only [execOp, e15]
          have f15 : a'.tmps[15]?.getD undef = .pointer (some ⟨p, 0, none⟩) := (Array.getD_eq_getD_getElem? ..).symm.trans e15
          clear e15
          first | rfl | (go_simp <;> exact IntWalk.i64_in _ (by omega))
        · intro a' w' K hI hd hq hK
          have e16 : a'.eval (.tmp 16) = .pointer (some ⟨p, 0, none⟩) := (hd 4 16 (by kernel_rfl))
          clear hd hq
          have cx := (HV.out.below hI).c0
          refine op_value (wanted_free _ _ (by rfl)) (v := .slice (some ⟨bv, ov, none⟩) cs.length vc) (w'' := w') ?_ (hK _ _ hI (fun _ _ h => h) rfl)
          clear hK
          simp only [execOp, e16]
          have f16 : a'.tmps[16]?.getD undef = .pointer (some ⟨p, 0, none⟩) := (Array.getD_eq_getD_getElem? ..).symm.trans e16
          clear e16
          first | rfl | (go_simp <;> exact IntWalk.i64_in _ (by omega))
        · intro a' w' K hI hd hq hK
          have e1 : a'.eval (.tmp 1) = .int .i64 (i : Int) := (hq 1 (by kernel_rfl)).trans rfl
          clear hd hq
          refine op_value (wanted_free _ _ (by rfl)) (v := .int .i64 (i : Int)) (w'' := w') ?_ (hK _ _ hI (fun _ _ h => h) rfl)
          clear hK
          simp only [execOp, e1]
          have f1 : a'.tmps[1]?.getD undef = .int .i64 (i : Int) := (Array.getD_eq_getD_getElem? ..).symm.trans e1
          clear e1
          first | rfl | (go_simp <;> exact IntWalk.i64_in _ (by omega))
        · intro a' w' K hI hd hq hK
          have e17 : a'.eval (.tmp 17) = .slice (some ⟨bv, ov, none⟩) cs.length vc := (hd 5 17 (by kernel_rfl))
          have e18 : a'.eval (.tmp 18) = .int .i64 (i : Int) := (hd 6 18 (by kernel_rfl))
          clear hd hq
          refine op_value (wanted_free _ _ (by rfl)) (v := .pointer (some ⟨bv, ov + i * 6, none⟩)) (w'' := w') ?_ (hK _ _ hI (fun _ _ h => h) rfl)
          clear hK
          simp only [execOp, e17, e18]
          have f17 : a'.tmps[17]?.getD undef = .slice (some ⟨bv, ov, none⟩) cs.length vc := (Array.getD_eq_getD_getElem? ..).symm.trans e17
          have f18 : a'.tmps[18]?.getD undef = .int .i64 (i : Int) := (Array.getD_eq_getD_getElem? ..).symm.trans e18
          clear e17 e18
          first | rfl | (go_simp <;> exact IntWalk.i64_in _ (by omega))
        · intro a' w' K hI hd hq hK
          have e19 : a'.eval (.tmp 19) = .pointer (some ⟨bv, ov + i * 6, none⟩) := (hd 7 19 (by kernel_rfl))
          clear hd hq
          refine op_value (wanted_free _ _ (by rfl)) (v := .pointer (some ⟨bv, ov + i * 6, none⟩)) (w'' := w') ?_ (hK _ _ hI (fun _ _ h => h) rfl)
          clear hK
          simp only [execOp, e19]
          have f19 : a'.tmps[19]?.getD undef = .pointer (some ⟨bv, ov + i * 6, none⟩) := (Array.getD_eq_getD_getElem? ..).symm.trans e19
          clear e19
          first | rfl | (go_simp <;> exact IntWalk.i64_in _ (by omega))
        · intro a' w' K hI hd hq hK
          have e20 : a'.eval (.tmp 20) = .pointer (some ⟨bv, ov + i * 6, none⟩) := (hd 8 20 (by kernel_rfl))
          clear hd hq
          have cx := (HP.out _ hI).1
          refine op_value (wanted_free _ _ (by rfl)) (v := .int .i64 c.group) (w'' := w') ?_ (hK _ _ hI (fun _ _ h => h) rfl)
          clear hK
          simp only [execOp, e20]
          have f20 : a'.tmps[20]?.getD undef = .pointer (some ⟨bv, ov + i * 6, none⟩) := (Array.getD_eq_getD_getElem? ..).symm.trans e20
          clear e20
          first | rfl | (go_simp <;> exact IntWalk.i64_in _ (by omega))
        · intro a' w' K hI hd hq hK
          have e13 : a'.eval (.tmp 13) = .slice m.A m.groups.length m.c := (hd 1 13 (by kernel_rfl))
          have e21 : a'.eval (.tmp 21) = .int .i64 c.group := (hd 9 21 (by kernel_rfl))
          clear hd hq
          refine op_call #[.slice m.A m.groups.length m.c, .int .i64 c.group] (wanted_free _ _ (by rfl)) rfl Try.func55 (by kernel_rfl) rfl (by simp [e13, e21]) ?_
          refine (contains_any m.A m.groups.length m.c m.groups c.group w' rfl HL.out (HG.out.below hI)).mono ?_
          rw [HQ1.out]
          rintro e w6 ⟨rfl, rfl⟩
          exact ⟨_, rfl, hK _ _ hI (fun _ _ h => h) rfl⟩
        · intro a' w' K hI hd hq hK
          have e22 : a'.eval (.tmp 22) = .bool true := (hd 10 22 (by kernel_rfl))
          clear hd hq
          refine op_value (wanted_free _ _ (by rfl)) (v := .bool false) (w'' := w') ?_ (hK _ _ hI (fun _ _ h => h) rfl)
          clear hK
          simp only [execOp, e22]
          have f22 : a'.tmps[22]?.getD undef = .bool true := (Array.getD_eq_getD_getElem? ..).symm.trans e22
          clear e22
          first | rfl | (go_simp <;> exact IntWalk.i64_in _ (by omega))
        · intro a' w' K hI hd hq hK
          have e23 : a'.eval (.tmp 23) = .bool false := (hd 11 23 (by kernel_rfl))
          clear hd hq
          refine op_value (wanted_free _ _ (by rfl)) (v := .bool false) (w'' := w') ?_ (hK _ _ hI (fun _ _ h => h) rfl)
          clear hK
          simp only [execOp, e23]
          have f23 : a'.tmps[23]?.getD undef = .bool false := (Array.getD_eq_getD_getElem? ..).symm.trans e23
          clear e23
          first | rfl | (go_simp <;> exact IntWalk.i64_in _ (by omega))
        · intro a' w' K hI hd hq hK
          have hg := hd 12 24 (by kernel_rfl)
          have e0 : a'.eval (.tmp 0) = .pointer (some ⟨p, 0, none⟩) := (hq 0 (by kernel_rfl)).trans rfl
          clear hd hq
          refine op_value (wanted_on _ a' 12 24 false (by rfl) (by rfl) hg) (v := .pointer (some ⟨p, 0, none⟩)) (w'' := w') ?_ (hK _ _ hI (fun _ _ h => h) rfl)
          clear hK
          simp only [execOp, e0]
          have f0 : a'.tmps[0]?.getD undef = .pointer (some ⟨p, 0, none⟩) := (Array.getD_eq_getD_getElem? ..).symm.trans e0
          clear e0
          first | rfl | (go_simp <;> exact IntWalk.i64_in _ (by omega))
        · intro a' w' K hI hd hq hK
          have hg := hd 12 24 (by kernel_rfl)
          have e1 : a'.eval (.tmp 1) = .int .i64 (i : Int) := (hq 1 (by kernel_rfl)).trans rfl
          clear hd hq
          refine op_value (wanted_on _ a' 12 24 false (by rfl) (by rfl) hg) (v := .int .i64 (i : Int)) (w'' := w') ?_ (hK _ _ hI (fun _ _ h => h) rfl)
          clear hK
          simp only [execOp, e1]
          have f1 : a'.tmps[1]?.getD undef = .int .i64 (i : Int) := (Array.getD_eq_getD_getElem? ..).symm.trans e1
          clear e1
          first | rfl | (go_simp <;> exact IntWalk.i64_in _ (by omega))
        · intro a' w' K hI hd hq hK
          have hg := hd 12 24 (by kernel_rfl)
          have e7 : a'.eval (.tmp 7) = .pointer (some ⟨gb, 0, none⟩) := (hq 7 (by kernel_rfl)).trans rfl
          clear hd hq
          refine op_makeFunc (.func 56) #[] #[.tmp 7] (wanted_on _ a' 12 24 false (by rfl) (by rfl) hg) rfl (hK _ _ hI (fun _ _ h => h) ?_)
          show Value.func _ _ _ = _
          simp only [List.map_toArray, List.map_cons, List.map_nil, e7]
        · intro a' w' K hI hd hq hK
          have hg := hd 12 24 (by kernel_rfl)
          have e25 : a'.eval (.tmp 25) = .pointer (some ⟨p, 0, none⟩) := (hd 13 25 (by kernel_rfl))
          have e26 : a'.eval (.tmp 26) = .int .i64 (i : Int) := (hd 14 26 (by kernel_rfl))
          have e27 : a'.eval (.tmp 27) = .func (.func 56) #[] #[.pointer (some ⟨gb, 0, none⟩)] := (hd 15 27 (by kernel_rfl))
          clear hd hq
          refine op_call #[.pointer (some ⟨p, 0, none⟩), .int .i64 (i : Int), .func (.func 56) #[] #[.pointer (some ⟨gb, 0, none⟩)]] (wanted_on _ a' 12 24 false (by rfl) (by rfl) hg) rfl Try.func54 (by kernel_rfl) rfl (by simp [e25, e26, e27]) ?_
          refine (othersSt_any p _ vc cs b (i : Int) gb m.tx m.A m.c m.groups w' (HV.out.below hI) ((HST.out).below hI)).mono ?_
          rw [HQ2.out]
          rintro e w6 ⟨rfl, hb6⟩
          exact ⟨_, rfl, hK _ _ (below_below hI hI.size hb6) (fun j u => by match j with | 0 | 1 | 2 | 3 | 4 | 5 | 6 | 7 | 8 | 9 | 10 | 11 | 12 | 13 | 14 | 15 | 16 | 17 | 18 => exact fun h => h | _ + 19 => exact fun _ => trivial) rfl⟩
        · intro a' w' K hI hd hq hK
          have e24 : a'.eval (.tmp 24) = .bool false := (hd 12 24 (by kernel_rfl))
          have e28 : a'.eval (.tmp 28) = .bool q2 := (hd 16 28 (by kernel_rfl))
          clear hd hq
          refine op_value (wanted_free _ _ (by rfl)) (v := .bool q2) (w'' := w') ?_ (hK _ _ hI (fun _ _ h => h) rfl)
          clear hK
          simp only [execOp, e24, e28]
          have f24 : a'.tmps[24]?.getD undef = .bool false := (Array.getD_eq_getD_getElem? ..).symm.trans e24
          have f28 : a'.tmps[28]?.getD undef = .bool q2 := (Array.getD_eq_getD_getElem? ..).symm.trans e28
          clear e24 e28
          first | rfl | (go_simp <;> exact IntWalk.i64_in _ (by omega))
        · intro a' w' K hI hd hq hK
          have e29 : a'.eval (.tmp 29) = .bool q2 := (hd 17 29 (by kernel_rfl))
          clear hd hq
          refine op_value (wanted_free _ _ (by rfl)) (v := .bool q2) (w'' := w') ?_ (hK _ _ hI (fun _ _ h => h) rfl)
          clear hK
          simp only [execOp, e29]
          have f29 : a'.tmps[29]?.getD undef = .bool q2 := (Array.getD_eq_getD_getElem? ..).symm.trans e29
          clear e29
          first | rfl | (go_simp <;> exact IntWalk.i64_in _ (by omega))
      case fin3 =>
        rintro w' hI _ rfl _ rfl _ rfl _ rfl _ rfl _ rfl _ rfl _ rfl _ rfl _ rfl _ rfl _ rfl _ rfl _ rfl _ rfl _ rfl _ rfl _ rfl _ rfl
        simp only [Act.put, List.setIfInBounds_toArray, List.set_cons_zero, List.set_cons_succ, FinGoal]
        have HI := Lib.hid hI
        clear hI
        go_wp2_with fail
        go_ret
        exact ⟨ret_bool (by rw [← HQ.out]; rfl), below_below HB1.out HB1.out.size HI.out⟩
  · have hk1 : (m.kind != 3) = true := by simpa using hk
    have HQQ := Lib.hid (show false = q by rw [← hq]; simp [hk])
    have Bw1 := Lib.hid (Below.refl w1.heap.size w1)
    clear hk hq
    go_enter Try.func31, Try.ntmps31
    go_upto_region 1 with fail
    rw [← HW1.out, ← HGB.out]
    go_wp2_with fail
    go_ret
    exact ⟨ret_bool HQQ.out, below_below HB1.out HB1.out.size Bw1.out⟩

end Go.Proofs.Ytjakhemolecbnaa
end

/-
  The walk of unlike.
-/
section
set_option linter.unusedVariables false
set_option linter.unusedSimpArgs false
namespace Go.Proofs.Ytjakhemolecbnaa
open Go.RowKit

/-- Where two rows part. -/
def unlikeS {α : Type} [DecidableEq α] : List α → List α → Nat
  | a :: l, b :: m => if a = b then unlikeS l m + 1 else 0
  | _, _ => 0
theorem unlikeS_eq {α : Type} [DecidableEq α] : ∀ (i : Nat) (M1 M2 : List α), M1.take i = M2.take i → i ≤ M1.length → i ≤ M2.length → (∀ (h1 : i < M1.length) (h2 : i < M2.length), M1[i] ≠ M2[i]) → unlikeS M1 M2 = i
  | 0, [], _, _, _, _, _ => by unfold unlikeS; rfl
  | 0, _ :: _, [], _, _, _, _ => by unfold unlikeS; rfl
  | 0, a :: l, b :: m, _, _, _, h => by
    unfold unlikeS
    exact if_neg (h (by simp) (by simp))
  | i + 1, [], _, _, h, _, _ => absurd h (by simp)
  | i + 1, _ :: _, [], _, _, h, _ => absurd h (by simp)
  | i + 1, a :: l, b :: m, ht, h1, h2, hn => by
    simp only [List.take_succ_cons, List.cons.injEq] at ht
    unfold unlikeS
    rw [if_pos ht.1, unlikeS_eq i l m ht.2 (by simpa using h1) (by simpa using h2) (fun a b => hn (by simpa using a) (by simpa using b))]

set_option maxRecDepth 100000 in
set_option maxHeartbeats 8000000 in
theorem unlike_any (A1 A2 : Option Addr) (n1 c1 n2 c2 : Nat) (M1 M2 : List (List UInt8 × List UInt8)) (w : World) (hl1 : M1.length = n1) (hl2 : M2.length = n2) (hn1 : n1 ≤ 100000) (hn2 : n2 ≤ 100000)
    (hh1 : ∀ x ∈ M1, x.2.length = 32) (hh2 : ∀ x ∈ M2, x.2.length = 32) (ht1 : ∀ x ∈ M1, x.1.length ≤ 1000000) (ht2 : ∀ x ∈ M2, x.1.length ≤ 1000000) (hr1 : RC w A1 (lv M1)) (hr2 : RC w A2 (lv M2)) :
    Calls Try.prog 61 #[.slice A1 n1 c1, .slice A2 n2 c2] w fun e w' => e = .returned (.int .i64 (unlikeS M1 M2 : Nat)) ∧ Below w.heap.size w w' := by
  subst hl1
  subst hl2
  obtain ⟨R, eR⟩ : ∃ R, R = unlikeS M1 M2 := ⟨_, rfl⟩
  rw [← eR]
  have ER := Lib.hid eR
  have H1 := Lib.hid hr1
  have H2 := Lib.hid hr2
  have HH1 := Lib.hid hh1
  have HH2 := Lib.hid hh2
  have HT1 := Lib.hid ht1
  have HT2 := Lib.hid ht2
  clear eR hr1 hr2 hh1 hh2 ht1 ht2
  go_enter Try.func61, Try.ntmps61
  go_wp2_with fail
  go_loopg [5] M1.length (fun k s5 wr => ∃ i : Nat, i ≤ M1.length ∧ i ≤ M2.length ∧ k = M1.length - i ∧ s5 = .int .i64 (i : Int) ∧ M1.take i = M2.take i ∧ Below w.heap.size w wr)
  case atStart => exact ⟨0, Nat.zero_le _, Nat.zero_le _, by omega, rfl, rfl, Below.refl _ _⟩
  case round =>
    obtain ⟨i, hi1, hi2, hk, rfl, heq, hb⟩ := hrel
    have HK := Lib.hid hk
    have HB := Lib.hid hb
    have HEQ := Lib.hid heq
    clear hk hb heq
    by_cases hlt1 : i < M1.length
    · by_cases hlt2 : i < M2.length
      · obtain ⟨b1, o1, rfl, e1⟩ := H1.out.parts (by rw [lv_length M1 HH1.out]; omega)
        obtain ⟨b2, o2, rfl, e2⟩ := H2.out.parts (by rw [lv_length M2 HH2.out]; omega)
        have RG1 := Lib.hid (lk_range HH1.out (fun j u hj => cell_below HB.out.drew (e1 j u hj)) i hlt1)
        have RG2 := Lib.hid (lk_range HH2.out (fun j u hj => cell_below HB.out.drew (e2 j u hj)) i hlt2)
        have hx1 := HH1.out _ (List.getElem_mem hlt1)
        have hx2 := HH2.out _ (List.getElem_mem hlt2)
        have HQ := Lib.hid (fun W => eqLk M1[i] M2[i] (HT1.out _ (List.getElem_mem hlt1)) (HT2.out _ (List.getElem_mem hlt2)) hx1 hx2 W)
        have t1 := List.take_succ_eq_append_getElem hlt1
        have t2 := List.take_succ_eq_append_getElem hlt2
        obtain ⟨q, eq⟩ : ∃ q, q = decide (M1[i] = M2[i]) := ⟨_, rfl⟩
        rw [← eq] at HQ
        have HE1 := Lib.hid (show q = true → M1.take (i + 1) = M2.take (i + 1) by
          intro h
          rw [t1, t2, HEQ.out, of_decide_eq_true (eq.symm.trans h)])
        have HE2 := Lib.hid (show q = false → R = i from fun h => ER.out.trans (unlikeS_eq i M1 M2 HEQ.out hi1 hi2 fun _ _ => of_decide_eq_false (eq.symm.trans h)))
        have il1 : (Try.prog.info? 92).map (·.size) = some (lk M1[i]).length := by rw [lk_length _ hx1]; exact info33
        have il2 : (Try.prog.info? 92).map (·.size) = some (lk M2[i]).length := by rw [lk_length _ hx2]; exact info33
        obtain ⟨x1, ex1⟩ : ∃ x1, x1 = lk M1[i] := ⟨_, rfl⟩
        obtain ⟨x2, ex2⟩ : ∃ x2, x2 = lk M2[i] := ⟨_, rfl⟩
        rw [← ex1] at RG1 il1 HQ
        rw [← ex2] at RG2 il2 HQ
        have IL1 := Lib.hid il1
        have IL2 := Lib.hid il2
        have hi0 : (0 : Int) ≤ (i : Int) := by omega
        have hi1' : (i : Int) < (M1.length : Int) := by omega
        have hi2' : (i : Int) < (M2.length : Int) := by omega
        have HLT1 := Lib.hid hlt1
        have HLT2 := Lib.hid hlt2
        clear e1 e2 hx1 hx2 t1 t2 eq il1 il2 ex1 ex2 hlt1 hi1 hi2 hlt2
        go_upto_region 2 with fail
        refine region_by (fun W => W = wr.drew) [(fun v _ => v = .int .i64 (i : Int)), (fun v _ => v = .slice (some ⟨b1, o1, none⟩) M1.length c1), (fun v _ => v = .int .i64 (M1.length : Int)), (fun v _ => v = .bool true), (fun v _ => v = .bool true), (fun v _ => v = .int .i64 (i : Int)), (fun v _ => v = .slice (some ⟨b2, o2, none⟩) M2.length c2), (fun v _ => v = .int .i64 (M2.length : Int)), (fun v _ => v = .bool true), (fun v _ => v = .bool true), (fun v _ => v = .bool true), (fun v _ => v = .slice (some ⟨b1, o1, none⟩) M1.length c1), (fun v _ => v = .int .i64 (i : Int)), (fun v _ => v = .pointer (some ⟨b1, o1 + i * 33, none⟩)), fun v _ => v = .agg x1.toArray, (fun v _ => v = .slice (some ⟨b2, o2, none⟩) M2.length c2), (fun v _ => v = .int .i64 (i : Int)), (fun v _ => v = .pointer (some ⟨b2, o2 + i * 33, none⟩)), fun v _ => v = .agg x2.toArray, fun v _ => v = .bool q, (fun v _ => v = .bool q)] (by kernel_rfl) (by kernel_rfl) (by kernel_rfl) rfl (rfl) ?ok2 ?fin2
        case ok2 =>
          refine ⟨?_, ?_, ?_, ?_, ?_, ?_, ?_, ?_, ?_, ?_, ?_, ?_, ?_, ?_, ?_, ?_, ?_, ?_, ?_, ?_, ?_, trivial⟩
          · intro a' w' K hI hd hq hK
            have e5 : a'.eval (.tmp 5) = .int .i64 (i : Int) := (hq 5 (by kernel_rfl)).trans rfl
            clear hd hq
            refine op_value (wanted_free _ _ (by rfl)) (v := .int .i64 (i : Int)) (w'' := w') ?_ (hK _ _ hI (fun _ _ h => h) rfl)
            clear hK
            simp only [execOp, e5]
            have f5 : a'.tmps[5]?.getD undef = .int .i64 (i : Int) := (Array.getD_eq_getD_getElem? ..).symm.trans e5
            clear e5
            first | rfl | (go_simp <;> exact IntWalk.i64_in _ (by omega))
          · intro a' w' K hI hd hq hK
            have e0 : a'.eval (.tmp 0) = .slice (some ⟨b1, o1, none⟩) M1.length c1 := (hq 0 (by kernel_rfl)).trans rfl
            clear hd hq
            refine op_value (wanted_free _ _ (by rfl)) (v := .slice (some ⟨b1, o1, none⟩) M1.length c1) (w'' := w') ?_ (hK _ _ hI (fun _ _ h => h) rfl)
            clear hK
            simp only [execOp, e0]
            have f0 : a'.tmps[0]?.getD undef = .slice (some ⟨b1, o1, none⟩) M1.length c1 := (Array.getD_eq_getD_getElem? ..).symm.trans e0
            clear e0
            first | rfl | (go_simp <;> exact IntWalk.i64_in _ (by omega))
          · intro a' w' K hI hd hq hK
            have e7 : a'.eval (.tmp 7) = .slice (some ⟨b1, o1, none⟩) M1.length c1 := (hd 1 7 (by kernel_rfl))
            clear hd hq
            refine op_value (wanted_free _ _ (by rfl)) (v := .int .i64 (M1.length : Int)) (w'' := w') ?_ (hK _ _ hI (fun _ _ h => h) rfl)
            clear hK
            simp only [execOp, e7]
            have f7 : a'.tmps[7]?.getD undef = .slice (some ⟨b1, o1, none⟩) M1.length c1 := (Array.getD_eq_getD_getElem? ..).symm.trans e7
            clear e7
            first | rfl | (go_simp <;> exact IntWalk.i64_in _ (by omega))
          · intro a' w' K hI hd hq hK
            have e6 : a'.eval (.tmp 6) = .int .i64 (i : Int) := (hd 0 6 (by kernel_rfl))
            have e8 : a'.eval (.tmp 8) = .int .i64 (M1.length : Int) := (hd 2 8 (by kernel_rfl))
            clear hd hq
            refine op_value (wanted_free _ _ (by rfl)) (v := .bool true) (w'' := w') ?_ (hK _ _ hI (fun _ _ h => h) rfl)
            clear hK
            simp only [execOp, e6, e8]
            have f6 : a'.tmps[6]?.getD undef = .int .i64 (i : Int) := (Array.getD_eq_getD_getElem? ..).symm.trans e6
            have f8 : a'.tmps[8]?.getD undef = .int .i64 (M1.length : Int) := (Array.getD_eq_getD_getElem? ..).symm.trans e8
            clear e6 e8
            first | rfl | (go_simp <;> exact IntWalk.i64_in _ (by omega))
          · intro a' w' K hI hd hq hK
            have e9 : a'.eval (.tmp 9) = .bool true := (hd 3 9 (by kernel_rfl))
            clear hd hq
            refine op_value (wanted_free _ _ (by rfl)) (v := .bool true) (w'' := w') ?_ (hK _ _ hI (fun _ _ h => h) rfl)
            clear hK
            simp only [execOp, e9]
            have f9 : a'.tmps[9]?.getD undef = .bool true := (Array.getD_eq_getD_getElem? ..).symm.trans e9
            clear e9
            first | rfl | (go_simp <;> exact IntWalk.i64_in _ (by omega))
          · intro a' w' K hI hd hq hK
            have hg := hd 4 10 (by kernel_rfl)
            have e5 : a'.eval (.tmp 5) = .int .i64 (i : Int) := (hq 5 (by kernel_rfl)).trans rfl
            clear hd hq
            refine op_value (wanted_on _ a' 4 10 true (by rfl) (by rfl) hg) (v := .int .i64 (i : Int)) (w'' := w') ?_ (hK _ _ hI (fun _ _ h => h) rfl)
            clear hK
            simp only [execOp, e5]
            have f5 : a'.tmps[5]?.getD undef = .int .i64 (i : Int) := (Array.getD_eq_getD_getElem? ..).symm.trans e5
            clear e5
            first | rfl | (go_simp <;> exact IntWalk.i64_in _ (by omega))
          · intro a' w' K hI hd hq hK
            have hg := hd 4 10 (by kernel_rfl)
            have e1 : a'.eval (.tmp 1) = .slice (some ⟨b2, o2, none⟩) M2.length c2 := (hq 1 (by kernel_rfl)).trans rfl
            clear hd hq
            refine op_value (wanted_on _ a' 4 10 true (by rfl) (by rfl) hg) (v := .slice (some ⟨b2, o2, none⟩) M2.length c2) (w'' := w') ?_ (hK _ _ hI (fun _ _ h => h) rfl)
            clear hK
            simp only [execOp, e1]
            have f1 : a'.tmps[1]?.getD undef = .slice (some ⟨b2, o2, none⟩) M2.length c2 := (Array.getD_eq_getD_getElem? ..).symm.trans e1
            clear e1
            first | rfl | (go_simp <;> exact IntWalk.i64_in _ (by omega))
          · intro a' w' K hI hd hq hK
            have hg := hd 4 10 (by kernel_rfl)
            have e12 : a'.eval (.tmp 12) = .slice (some ⟨b2, o2, none⟩) M2.length c2 := (hd 6 12 (by kernel_rfl))
            clear hd hq
            refine op_value (wanted_on _ a' 4 10 true (by rfl) (by rfl) hg) (v := .int .i64 (M2.length : Int)) (w'' := w') ?_ (hK _ _ hI (fun _ _ h => h) rfl)
            clear hK
            simp only [execOp, e12]
            have f12 : a'.tmps[12]?.getD undef = .slice (some ⟨b2, o2, none⟩) M2.length c2 := (Array.getD_eq_getD_getElem? ..).symm.trans e12
            clear e12
            first | rfl | (go_simp <;> exact IntWalk.i64_in _ (by omega))
          · intro a' w' K hI hd hq hK
            have hg := hd 4 10 (by kernel_rfl)
            have e11 : a'.eval (.tmp 11) = .int .i64 (i : Int) := (hd 5 11 (by kernel_rfl))
            have e13 : a'.eval (.tmp 13) = .int .i64 (M2.length : Int) := (hd 7 13 (by kernel_rfl))
            clear hd hq
            refine op_value (wanted_on _ a' 4 10 true (by rfl) (by rfl) hg) (v := .bool true) (w'' := w') ?_ (hK _ _ hI (fun _ _ h => h) rfl)
            clear hK
            simp only [execOp, e11, e13]
            have f11 : a'.tmps[11]?.getD undef = .int .i64 (i : Int) := (Array.getD_eq_getD_getElem? ..).symm.trans e11
            have f13 : a'.tmps[13]?.getD undef = .int .i64 (M2.length : Int) := (Array.getD_eq_getD_getElem? ..).symm.trans e13
            clear e11 e13
            first | rfl | (go_simp <;> exact IntWalk.i64_in _ (by omega))
          · intro a' w' K hI hd hq hK
            have e10 : a'.eval (.tmp 10) = .bool true := (hd 4 10 (by kernel_rfl))
            have e14 : a'.eval (.tmp 14) = .bool true := (hd 8 14 (by kernel_rfl))
            clear hd hq
            refine op_value (wanted_free _ _ (by rfl)) (v := .bool true) (w'' := w') ?_ (hK _ _ hI (fun _ _ h => h) rfl)
            clear hK
            simp only [execOp, e10, e14]
            have f10 : a'.tmps[10]?.getD undef = .bool true := (Array.getD_eq_getD_getElem? ..).symm.trans e10
            have f14 : a'.tmps[14]?.getD undef = .bool true := (Array.getD_eq_getD_getElem? ..).symm.trans e14
            clear e10 e14
            first | rfl | (go_simp <;> exact IntWalk.i64_in _ (by omega))
          · intro a' w' K hI hd hq hK
            have e15 : a'.eval (.tmp 15) = .bool true := (hd 9 15 (by kernel_rfl))
            clear hd hq
            refine op_value (wanted_free _ _ (by rfl)) (v := .bool true) (w'' := w') ?_ (hK _ _ hI (fun _ _ h => h) rfl)
            clear hK
            simp only [execOp, e15]
            have f15 : a'.tmps[15]?.getD undef = .bool true := (Array.getD_eq_getD_getElem? ..).symm.trans e15
            clear e15
            first | rfl | (go_simp <;> exact IntWalk.i64_in _ (by omega))
          · intro a' w' K hI hd hq hK
            have hg := hd 10 16 (by kernel_rfl)
            have e0 : a'.eval (.tmp 0) = .slice (some ⟨b1, o1, none⟩) M1.length c1 := (hq 0 (by kernel_rfl)).trans rfl
            clear hd hq
            refine op_value (wanted_on _ a' 10 16 true (by rfl) (by rfl) hg) (v := .slice (some ⟨b1, o1, none⟩) M1.length c1) (w'' := w') ?_ (hK _ _ hI (fun _ _ h => h) rfl)
            clear hK
            simp only [execOp, e0]
            have f0 : a'.tmps[0]?.getD undef = .slice (some ⟨b1, o1, none⟩) M1.length c1 := (Array.getD_eq_getD_getElem? ..).symm.trans e0
            clear e0
            first | rfl | (go_simp <;> exact IntWalk.i64_in _ (by omega))
          · intro a' w' K hI hd hq hK
            have hg := hd 10 16 (by kernel_rfl)
            have e5 : a'.eval (.tmp 5) = .int .i64 (i : Int) := (hq 5 (by kernel_rfl)).trans rfl
            clear hd hq
            refine op_value (wanted_on _ a' 10 16 true (by rfl) (by rfl) hg) (v := .int .i64 (i : Int)) (w'' := w') ?_ (hK _ _ hI (fun _ _ h => h) rfl)
            clear hK
            simp only [execOp, e5]
            have f5 : a'.tmps[5]?.getD undef = .int .i64 (i : Int) := (Array.getD_eq_getD_getElem? ..).symm.trans e5
            clear e5
            first | rfl | (go_simp <;> exact IntWalk.i64_in _ (by omega))
          · intro a' w' K hI hd hq hK
            have hg := hd 10 16 (by kernel_rfl)
            have e17 : a'.eval (.tmp 17) = .slice (some ⟨b1, o1, none⟩) M1.length c1 := (hd 11 17 (by kernel_rfl))
            have e18 : a'.eval (.tmp 18) = .int .i64 (i : Int) := (hd 12 18 (by kernel_rfl))
            clear hd hq
            refine op_value (wanted_on _ a' 10 16 true (by rfl) (by rfl) hg) (v := .pointer (some ⟨b1, o1 + i * 33, none⟩)) (w'' := w') ?_ (hK _ _ hI (fun _ _ h => h) rfl)
            clear hK
            simp only [execOp, e17, e18]
            have f17 : a'.tmps[17]?.getD undef = .slice (some ⟨b1, o1, none⟩) M1.length c1 := (Array.getD_eq_getD_getElem? ..).symm.trans e17
            have f18 : a'.tmps[18]?.getD undef = .int .i64 (i : Int) := (Array.getD_eq_getD_getElem? ..).symm.trans e18
            clear e17 e18
            first | rfl | (go_simp <;> exact IntWalk.i64_in _ (by omega))
          · intro a' w' K hI hd hq hK
            have hg := hd 10 16 (by kernel_rfl)
            have e19 : a'.eval (.tmp 19) = .pointer (some ⟨b1, o1 + i * 33, none⟩) := (hd 13 19 (by kernel_rfl))
            clear hd hq
            subst hI
            refine op_value (wanted_on _ a' 10 16 true (by rfl) (by rfl) hg) (v := .agg x1.toArray) (w'' := wr.drew) ?_ (hK _ _ rfl (fun _ _ h => h) rfl)
            simp only [execOp, e19, Instr.loadAt, Instr.sureAddr, Sem.run_bind, Sem.run_pure, Result.andThen_ok, run_loadVar_mid wr.drew b1 (o1 + i * 33) 92 x1 _ RG1.out Try.underlying92 rfl IL1.out]
          · intro a' w' K hI hd hq hK
            have hg := hd 10 16 (by kernel_rfl)
            have e1 : a'.eval (.tmp 1) = .slice (some ⟨b2, o2, none⟩) M2.length c2 := (hq 1 (by kernel_rfl)).trans rfl
            clear hd hq
            refine op_value (wanted_on _ a' 10 16 true (by rfl) (by rfl) hg) (v := .slice (some ⟨b2, o2, none⟩) M2.length c2) (w'' := w') ?_ (hK _ _ hI (fun _ _ h => h) rfl)
            clear hK
            simp only [execOp, e1]
            have f1 : a'.tmps[1]?.getD undef = .slice (some ⟨b2, o2, none⟩) M2.length c2 := (Array.getD_eq_getD_getElem? ..).symm.trans e1
            clear e1
            first | rfl | (go_simp <;> exact IntWalk.i64_in _ (by omega))
          · intro a' w' K hI hd hq hK
            have hg := hd 10 16 (by kernel_rfl)
            have e5 : a'.eval (.tmp 5) = .int .i64 (i : Int) := (hq 5 (by kernel_rfl)).trans rfl
            clear hd hq
            refine op_value (wanted_on _ a' 10 16 true (by rfl) (by rfl) hg) (v := .int .i64 (i : Int)) (w'' := w') ?_ (hK _ _ hI (fun _ _ h => h) rfl)
            clear hK
            simp only [execOp, e5]
            have f5 : a'.tmps[5]?.getD undef = .int .i64 (i : Int) := (Array.getD_eq_getD_getElem? ..).symm.trans e5
            clear e5
            first | rfl | (go_simp <;> exact IntWalk.i64_in _ (by omega))
          · intro a' w' K hI hd hq hK
            have hg := hd 10 16 (by kernel_rfl)
            have e21 : a'.eval (.tmp 21) = .slice (some ⟨b2, o2, none⟩) M2.length c2 := (hd 15 21 (by kernel_rfl))
            have e22 : a'.eval (.tmp 22) = .int .i64 (i : Int) := (hd 16 22 (by kernel_rfl))
            clear hd hq
            refine op_value (wanted_on _ a' 10 16 true (by rfl) (by rfl) hg) (v := .pointer (some ⟨b2, o2 + i * 33, none⟩)) (w'' := w') ?_ (hK _ _ hI (fun _ _ h => h) rfl)
            clear hK
            simp only [execOp, e21, e22]
            have f21 : a'.tmps[21]?.getD undef = .slice (some ⟨b2, o2, none⟩) M2.length c2 := (Array.getD_eq_getD_getElem? ..).symm.trans e21
            have f22 : a'.tmps[22]?.getD undef = .int .i64 (i : Int) := (Array.getD_eq_getD_getElem? ..).symm.trans e22
            clear e21 e22
            first | rfl | (go_simp <;> exact IntWalk.i64_in _ (by omega))
          · intro a' w' K hI hd hq hK
            have hg := hd 10 16 (by kernel_rfl)
            have e23 : a'.eval (.tmp 23) = .pointer (some ⟨b2, o2 + i * 33, none⟩) := (hd 17 23 (by kernel_rfl))
            clear hd hq
            subst hI
            refine op_value (wanted_on _ a' 10 16 true (by rfl) (by rfl) hg) (v := .agg x2.toArray) (w'' := wr.drew) ?_ (hK _ _ rfl (fun _ _ h => h) rfl)
            simp only [execOp, e23, Instr.loadAt, Instr.sureAddr, Sem.run_bind, Sem.run_pure, Result.andThen_ok, run_loadVar_mid wr.drew b2 (o2 + i * 33) 92 x2 _ RG2.out Try.underlying92 rfl IL2.out]
          · intro a' w' K hI hd hq hK
            have hg := hd 10 16 (by kernel_rfl)
            have e20 : a'.eval (.tmp 20) = .agg x1.toArray := (hd 14 20 (by kernel_rfl))
            have e24 : a'.eval (.tmp 24) = .agg x2.toArray := (hd 18 24 (by kernel_rfl))
            clear hd hq
            refine op_value (wanted_on _ a' 10 16 true (by rfl) (by rfl) hg) (v := .bool q) (w'' := w') ?_ (hK _ _ hI (fun _ _ h => h) rfl)
            simp only [execOp, e20, e24, Sem.run_bind, run_eqGuard_agg w' _ 92 _ _ _ _ (show Try.prog.eqGuardType Try.prog.depth 92 = false by kernel_rfl), run_eql_struct, HQ.out w', Result.andThen_ok, Sem.run_pure]
          · intro a' w' K hI hd hq hK
            have e16 : a'.eval (.tmp 16) = .bool true := (hd 10 16 (by kernel_rfl))
            have e25 : a'.eval (.tmp 25) = .bool q := (hd 19 25 (by kernel_rfl))
            clear hd hq
            refine op_value (wanted_free _ _ (by rfl)) (v := .bool q) (w'' := w') ?_ (hK _ _ hI (fun _ _ h => h) rfl)
            clear hK
            simp only [execOp, e16, e25]
            have f16 : a'.tmps[16]?.getD undef = .bool true := (Array.getD_eq_getD_getElem? ..).symm.trans e16
            have f25 : a'.tmps[25]?.getD undef = .bool q := (Array.getD_eq_getD_getElem? ..).symm.trans e25
            clear e16 e25
            first | rfl | (go_simp <;> exact IntWalk.i64_in _ (by omega))
        case fin2 =>
          rintro w' hI _ rfl _ rfl _ rfl _ rfl _ rfl _ rfl _ rfl _ rfl _ rfl _ rfl _ rfl _ rfl _ rfl _ rfl _ rfl _ rfl _ rfl _ rfl _ rfl _ rfl _ rfl
          simp only [Act.put, List.setIfInBounds_toArray, List.set_cons_zero, List.set_cons_succ, FinGoal]
          cases q with
          | true =>
            subst hI
            go_wp2_with fail
            go_roundg (M1.length - (i + 1))
            case measure => have := HK.out; have := HLT1.out; omega
            case rel => exact ⟨i + 1, HLT1.out, HLT2.out, rfl, by go_num, HE1.out (by first | trivial | rfl), HB.out.drew⟩
          | false =>
            subst hI
            go_wp2_with fail
            go_ret
            rw [HE2.out (by first | trivial | rfl)]
            exact ⟨rfl, HB.out.drew⟩
      · obtain rfl : i = M2.length := by omega
        have HRT := Lib.hid (show R = M2.length from ER.out.trans (unlikeS_eq _ M1 M2 HEQ.out hi1 hi2 fun _ h => absurd h hlt2))
        have hlt1' : ((M2.length : Int) < (M1.length : Int)) := by omega
        clear hlt2 hi1 hi2 hlt1
        go_upto_region 2 with fail
        refine region_by (fun W => W = wr.drew) [(fun v _ => v = .int .i64 (M2.length : Int)), (fun v _ => v = .slice A1 M1.length c1), (fun v _ => v = .int .i64 (M1.length : Int)), (fun v _ => v = .bool true), (fun v _ => v = .bool true), (fun v _ => v = .int .i64 (M2.length : Int)), (fun v _ => v = .slice A2 M2.length c2), (fun v _ => v = .int .i64 (M2.length : Int)), (fun v _ => v = .bool false), (fun v _ => v = .bool false), (fun v _ => v = .bool false), (fun v _ => v = undef), (fun v _ => v = undef), (fun v _ => v = undef), (fun v _ => v = undef), (fun v _ => v = undef), (fun v _ => v = undef), (fun v _ => v = undef), (fun v _ => v = undef), (fun v _ => v = undef), (fun v _ => v = .bool false)] (by kernel_rfl) (by kernel_rfl) (by kernel_rfl) rfl (rfl) ?ok2 ?fin2
        case ok2 =>
          refine ⟨?_, ?_, ?_, ?_, ?_, ?_, ?_, ?_, ?_, ?_, ?_, ?_, ?_, ?_, ?_, ?_, ?_, ?_, ?_, ?_, ?_, trivial⟩
          · intro a' w' K hI hd hq hK
            have e5 : a'.eval (.tmp 5) = .int .i64 (M2.length : Int) := (hq 5 (by kernel_rfl)).trans rfl
            clear hd hq
            refine op_value (wanted_free _ _ (by rfl)) (v := .int .i64 (M2.length : Int)) (w'' := w') ?_ (hK _ _ hI (fun _ _ h => h) rfl)
            clear hK
            simp only [execOp, e5]
            have f5 : a'.tmps[5]?.getD undef = .int .i64 (M2.length : Int) := (Array.getD_eq_getD_getElem? ..).symm.trans e5
            clear e5
            first | rfl | (go_simp <;> exact IntWalk.i64_in _ (by omega))
          · intro a' w' K hI hd hq hK
            have e0 : a'.eval (.tmp 0) = .slice A1 M1.length c1 := (hq 0 (by kernel_rfl)).trans rfl
            clear hd hq
            refine op_value (wanted_free _ _ (by rfl)) (v := .slice A1 M1.length c1) (w'' := w') ?_ (hK _ _ hI (fun _ _ h => h) rfl)
            clear hK
            simp only [execOp, e0]
            have f0 : a'.tmps[0]?.getD undef = .slice A1 M1.length c1 := (Array.getD_eq_getD_getElem? ..).symm.trans e0
            clear e0
            first | rfl | (go_simp <;> exact IntWalk.i64_in _ (by omega))
          · intro a' w' K hI hd hq hK
            have e7 : a'.eval (.tmp 7) = .slice A1 M1.length c1 := (hd 1 7 (by kernel_rfl))
            clear hd hq
            refine op_value (wanted_free _ _ (by rfl)) (v := .int .i64 (M1.length : Int)) (w'' := w') ?_ (hK _ _ hI (fun _ _ h => h) rfl)
            clear hK
            simp only [execOp, e7]
            have f7 : a'.tmps[7]?.getD undef = .slice A1 M1.length c1 := (Array.getD_eq_getD_getElem? ..).symm.trans e7
            clear e7
            first | rfl | (go_simp <;> exact IntWalk.i64_in _ (by omega))
          · intro a' w' K hI hd hq hK
            have e6 : a'.eval (.tmp 6) = .int .i64 (M2.length : Int) := (hd 0 6 (by kernel_rfl))
            have e8 : a'.eval (.tmp 8) = .int .i64 (M1.length : Int) := (hd 2 8 (by kernel_rfl))
            clear hd hq
            refine op_value (wanted_free _ _ (by rfl)) (v := .bool true) (w'' := w') ?_ (hK _ _ hI (fun _ _ h => h) rfl)
            clear hK
            simp only [execOp, e6, e8]
            have f6 : a'.tmps[6]?.getD undef = .int .i64 (M2.length : Int) := (Array.getD_eq_getD_getElem? ..).symm.trans e6
            have f8 : a'.tmps[8]?.getD undef = .int .i64 (M1.length : Int) := (Array.getD_eq_getD_getElem? ..).symm.trans e8
            clear e6 e8
            first | rfl | (go_simp <;> exact IntWalk.i64_in _ (by omega))
          · intro a' w' K hI hd hq hK
            have e9 : a'.eval (.tmp 9) = .bool true := (hd 3 9 (by kernel_rfl))
            clear hd hq
            refine op_value (wanted_free _ _ (by rfl)) (v := .bool true) (w'' := w') ?_ (hK _ _ hI (fun _ _ h => h) rfl)
            clear hK
            simp only [execOp, e9]
            have f9 : a'.tmps[9]?.getD undef = .bool true := (Array.getD_eq_getD_getElem? ..).symm.trans e9
            clear e9
            first | rfl | (go_simp <;> exact IntWalk.i64_in _ (by omega))
          · intro a' w' K hI hd hq hK
            have hg := hd 4 10 (by kernel_rfl)
            have e5 : a'.eval (.tmp 5) = .int .i64 (M2.length : Int) := (hq 5 (by kernel_rfl)).trans rfl
            clear hd hq
            refine op_value (wanted_on _ a' 4 10 true (by rfl) (by rfl) hg) (v := .int .i64 (M2.length : Int)) (w'' := w') ?_ (hK _ _ hI (fun _ _ h => h) rfl)
            clear hK
            simp only [execOp, e5]
            have f5 : a'.tmps[5]?.getD undef = .int .i64 (M2.length : Int) := (Array.getD_eq_getD_getElem? ..).symm.trans e5
            clear e5
            first | rfl | (go_simp <;> exact IntWalk.i64_in _ (by omega))
          · intro a' w' K hI hd hq hK
            have hg := hd 4 10 (by kernel_rfl)
            have e1 : a'.eval (.tmp 1) = .slice A2 M2.length c2 := (hq 1 (by kernel_rfl)).trans rfl
            clear hd hq
            refine op_value (wanted_on _ a' 4 10 true (by rfl) (by rfl) hg) (v := .slice A2 M2.length c2) (w'' := w') ?_ (hK _ _ hI (fun _ _ h => h) rfl)
            clear hK
            simp only [execOp, e1]
            have f1 : a'.tmps[1]?.getD undef = .slice A2 M2.length c2 := (Array.getD_eq_getD_getElem? ..).symm.trans e1
            clear e1
            first | rfl | (go_simp <;> exact IntWalk.i64_in _ (by omega))
          · intro a' w' K hI hd hq hK
            have hg := hd 4 10 (by kernel_rfl)
            have e12 : a'.eval (.tmp 12) = .slice A2 M2.length c2 := (hd 6 12 (by kernel_rfl))
            clear hd hq
            refine op_value (wanted_on _ a' 4 10 true (by rfl) (by rfl) hg) (v := .int .i64 (M2.length : Int)) (w'' := w') ?_ (hK _ _ hI (fun _ _ h => h) rfl)
            clear hK
            simp only [execOp, e12]
            have f12 : a'.tmps[12]?.getD undef = .slice A2 M2.length c2 := (Array.getD_eq_getD_getElem? ..).symm.trans e12
            clear e12
            first | rfl | (go_simp <;> exact IntWalk.i64_in _ (by omega))
          · intro a' w' K hI hd hq hK
            have hg := hd 4 10 (by kernel_rfl)
            have e11 : a'.eval (.tmp 11) = .int .i64 (M2.length : Int) := (hd 5 11 (by kernel_rfl))
            have e13 : a'.eval (.tmp 13) = .int .i64 (M2.length : Int) := (hd 7 13 (by kernel_rfl))
            clear hd hq
            refine op_value (wanted_on _ a' 4 10 true (by rfl) (by rfl) hg) (v := .bool false) (w'' := w') ?_ (hK _ _ hI (fun _ _ h => h) rfl)
            clear hK
            simp only [execOp, e11, e13]
            have f11 : a'.tmps[11]?.getD undef = .int .i64 (M2.length : Int) := (Array.getD_eq_getD_getElem? ..).symm.trans e11
            have f13 : a'.tmps[13]?.getD undef = .int .i64 (M2.length : Int) := (Array.getD_eq_getD_getElem? ..).symm.trans e13
            clear e11 e13
            first | rfl | (go_simp <;> exact IntWalk.i64_in _ (by omega))
          · intro a' w' K hI hd hq hK
            have e10 : a'.eval (.tmp 10) = .bool true := (hd 4 10 (by kernel_rfl))
            have e14 : a'.eval (.tmp 14) = .bool false := (hd 8 14 (by kernel_rfl))
            clear hd hq
            refine op_value (wanted_free _ _ (by rfl)) (v := .bool false) (w'' := w') ?_ (hK _ _ hI (fun _ _ h => h) rfl)
            clear hK
            simp only [execOp, e10, e14]
            have f10 : a'.tmps[10]?.getD undef = .bool true := (Array.getD_eq_getD_getElem? ..).symm.trans e10
            have f14 : a'.tmps[14]?.getD undef = .bool false := (Array.getD_eq_getD_getElem? ..).symm.trans e14
            clear e10 e14
            first | rfl | (go_simp <;> exact IntWalk.i64_in _ (by omega))
          · intro a' w' K hI hd hq hK
            have e15 : a'.eval (.tmp 15) = .bool false := (hd 9 15 (by kernel_rfl))
            clear hd hq
            refine op_value (wanted_free _ _ (by rfl)) (v := .bool false) (w'' := w') ?_ (hK _ _ hI (fun _ _ h => h) rfl)
            clear hK
            simp only [execOp, e15]
            have f15 : a'.tmps[15]?.getD undef = .bool false := (Array.getD_eq_getD_getElem? ..).symm.trans e15
            clear e15
            first | rfl | (go_simp <;> exact IntWalk.i64_in _ (by omega))
          · intro a' w' K hI hd hq hK
            have hg := hd 10 16 (by kernel_rfl)
            rw [if_neg (by rw [wanted_off _ a' 10 16 true (by rfl) (by rfl) hg]; decide)]
            exact hK _ _ hI (fun _ _ h => h) rfl
          · intro a' w' K hI hd hq hK
            have hg := hd 10 16 (by kernel_rfl)
            rw [if_neg (by rw [wanted_off _ a' 10 16 true (by rfl) (by rfl) hg]; decide)]
            exact hK _ _ hI (fun _ _ h => h) rfl
          · intro a' w' K hI hd hq hK
            have hg := hd 10 16 (by kernel_rfl)
            rw [if_neg (by rw [wanted_off _ a' 10 16 true (by rfl) (by rfl) hg]; decide)]
            exact hK _ _ hI (fun _ _ h => h) rfl
          · intro a' w' K hI hd hq hK
            have hg := hd 10 16 (by kernel_rfl)
            rw [if_neg (by rw [wanted_off _ a' 10 16 true (by rfl) (by rfl) hg]; decide)]
            exact hK _ _ hI (fun _ _ h => h) rfl
          · intro a' w' K hI hd hq hK
            have hg := hd 10 16 (by kernel_rfl)
            rw [if_neg (by rw [wanted_off _ a' 10 16 true (by rfl) (by rfl) hg]; decide)]
            exact hK _ _ hI (fun _ _ h => h) rfl
          · intro a' w' K hI hd hq hK
            have hg := hd 10 16 (by kernel_rfl)
            rw [if_neg (by rw [wanted_off _ a' 10 16 true (by rfl) (by rfl) hg]; decide)]
            exact hK _ _ hI (fun _ _ h => h) rfl
          · intro a' w' K hI hd hq hK
            have hg := hd 10 16 (by kernel_rfl)
            rw [if_neg (by rw [wanted_off _ a' 10 16 true (by rfl) (by rfl) hg]; decide)]
            exact hK _ _ hI (fun _ _ h => h) rfl
          · intro a' w' K hI hd hq hK
            have hg := hd 10 16 (by kernel_rfl)
            rw [if_neg (by rw [wanted_off _ a' 10 16 true (by rfl) (by rfl) hg]; decide)]
            exact hK _ _ hI (fun _ _ h => h) rfl
          · intro a' w' K hI hd hq hK
            have hg := hd 10 16 (by kernel_rfl)
            rw [if_neg (by rw [wanted_off _ a' 10 16 true (by rfl) (by rfl) hg]; decide)]
            exact hK _ _ hI (fun _ _ h => h) rfl
          · intro a' w' K hI hd hq hK
            have e16 : a'.eval (.tmp 16) = .bool false := (hd 10 16 (by kernel_rfl))
            have e25 : a'.eval (.tmp 25) = undef := (hd 19 25 (by kernel_rfl))
            clear hd hq
            refine op_value (wanted_free _ _ (by rfl)) (v := .bool false) (w'' := w') ?_ (hK _ _ hI (fun _ _ h => h) rfl)
            clear hK
            simp only [execOp, e16, e25]
            have f16 : a'.tmps[16]?.getD undef = .bool false := (Array.getD_eq_getD_getElem? ..).symm.trans e16
            have f25 : a'.tmps[25]?.getD undef = undef := (Array.getD_eq_getD_getElem? ..).symm.trans e25
            clear e16 e25
            first | rfl | (go_simp <;> exact IntWalk.i64_in _ (by omega))
        case fin2 =>
          rintro w' hI _ rfl _ rfl _ rfl _ rfl _ rfl _ rfl _ rfl _ rfl _ rfl _ rfl _ rfl _ rfl _ rfl _ rfl _ rfl _ rfl _ rfl _ rfl _ rfl _ rfl _ rfl
          simp only [Act.put, List.setIfInBounds_toArray, List.set_cons_zero, List.set_cons_succ, FinGoal]
          subst hI
          go_wp2_with fail
          go_ret
          rw [HRT.out]
          exact ⟨rfl, HB.out.drew⟩
    · obtain rfl : i = M1.length := by omega
      have HRT := Lib.hid (show R = M1.length from ER.out.trans (unlikeS_eq _ M1 M2 HEQ.out hi1 hi2 fun h => absurd h hlt1))
      clear hlt1 hi1 hi2
      go_upto_region 2 with fail
      refine region_by (fun W => W = wr.drew) [(fun v _ => v = .int .i64 (M1.length : Int)), (fun v _ => v = .slice A1 M1.length c1), (fun v _ => v = .int .i64 (M1.length : Int)), (fun v _ => v = .bool false), (fun v _ => v = .bool false), (fun v _ => v = undef), (fun v _ => v = undef), (fun v _ => v = undef), (fun v _ => v = undef), (fun v _ => v = .bool false), (fun v _ => v = .bool false), (fun v _ => v = undef), (fun v _ => v = undef), (fun v _ => v = undef), (fun v _ => v = undef), (fun v _ => v = undef), (fun v _ => v = undef), (fun v _ => v = undef), (fun v _ => v = undef), (fun v _ => v = undef), (fun v _ => v = .bool false)] (by kernel_rfl) (by kernel_rfl) (by kernel_rfl) rfl (rfl) ?ok2 ?fin2
      case ok2 =>
        refine ⟨?_, ?_, ?_, ?_, ?_, ?_, ?_, ?_, ?_, ?_, ?_, ?_, ?_, ?_, ?_, ?_, ?_, ?_, ?_, ?_, ?_, trivial⟩
        · intro a' w' K hI hd hq hK
          have e5 : a'.eval (.tmp 5) = .int .i64 (M1.length : Int) := (hq 5 (by kernel_rfl)).trans rfl
          clear hd hq
          refine op_value (wanted_free _ _ (by rfl)) (v := .int .i64 (M1.length : Int)) (w'' := w') ?_ (hK _ _ hI (fun _ _ h => h) rfl)
          clear hK
          simp only [execOp, e5]
          have f5 : a'.tmps[5]?.getD undef = .int .i64 (M1.length : Int) := (Array.getD_eq_getD_getElem? ..).symm.trans e5
          clear e5
          first | rfl | (go_simp <;> exact IntWalk.i64_in _ (by omega))
        · intro a' w' K hI hd hq hK
          have e0 : a'.eval (.tmp 0) = .slice A1 M1.length c1 := (hq 0 (by kernel_rfl)).trans rfl
          clear hd hq
          refine op_value (wanted_free _ _ (by rfl)) (v := .slice A1 M1.length c1) (w'' := w') ?_ (hK _ _ hI (fun _ _ h => h) rfl)
          clear hK
          simp only [execOp, e0]
          have f0 : a'.tmps[0]?.getD undef = .slice A1 M1.length c1 := (Array.getD_eq_getD_getElem? ..).symm.trans e0
          clear e0
          first | rfl | (go_simp <;> exact IntWalk.i64_in _ (by omega))
        · intro a' w' K hI hd hq hK
          have e7 : a'.eval (.tmp 7) = .slice A1 M1.length c1 := (hd 1 7 (by kernel_rfl))
          clear hd hq
          refine op_value (wanted_free _ _ (by rfl)) (v := .int .i64 (M1.length : Int)) (w'' := w') ?_ (hK _ _ hI (fun _ _ h => h) rfl)
          clear hK
          simp only [execOp, e7]
          have f7 : a'.tmps[7]?.getD undef = .slice A1 M1.length c1 := (Array.getD_eq_getD_getElem? ..).symm.trans e7
          clear e7
          first | rfl | (go_simp <;> exact IntWalk.i64_in _ (by omega))
        · intro a' w' K hI hd hq hK
          have e6 : a'.eval (.tmp 6) = .int .i64 (M1.length : Int) := (hd 0 6 (by kernel_rfl))
          have e8 : a'.eval (.tmp 8) = .int .i64 (M1.length : Int) := (hd 2 8 (by kernel_rfl))
          clear hd hq
          refine op_value (wanted_free _ _ (by rfl)) (v := .bool false) (w'' := w') ?_ (hK _ _ hI (fun _ _ h => h) rfl)
          clear hK
          simp only [execOp, e6, e8]
          have f6 : a'.tmps[6]?.getD undef = .int .i64 (M1.length : Int) := (Array.getD_eq_getD_getElem? ..).symm.trans e6
          have f8 : a'.tmps[8]?.getD undef = .int .i64 (M1.length : Int) := (Array.getD_eq_getD_getElem? ..).symm.trans e8
          clear e6 e8
          first | rfl | (go_simp <;> exact IntWalk.i64_in _ (by omega))
        · intro a' w' K hI hd hq hK
          have e9 : a'.eval (.tmp 9) = .bool false := (hd 3 9 (by kernel_rfl))
          clear hd hq
          refine op_value (wanted_free _ _ (by rfl)) (v := .bool false) (w'' := w') ?_ (hK _ _ hI (fun _ _ h => h) rfl)
          clear hK
          simp only [execOp, e9]
          have f9 : a'.tmps[9]?.getD undef = .bool false := (Array.getD_eq_getD_getElem? ..).symm.trans e9
          clear e9
          first | rfl | (go_simp <;> exact IntWalk.i64_in _ (by omega))
        · intro a' w' K hI hd hq hK
          have hg := hd 4 10 (by kernel_rfl)
          rw [if_neg (by rw [wanted_off _ a' 4 10 true (by rfl) (by rfl) hg]; decide)]
          exact hK _ _ hI (fun _ _ h => h) rfl
        · intro a' w' K hI hd hq hK
          have hg := hd 4 10 (by kernel_rfl)
          rw [if_neg (by rw [wanted_off _ a' 4 10 true (by rfl) (by rfl) hg]; decide)]
          exact hK _ _ hI (fun _ _ h => h) rfl
        · intro a' w' K hI hd hq hK
          have hg := hd 4 10 (by kernel_rfl)
          rw [if_neg (by rw [wanted_off _ a' 4 10 true (by rfl) (by rfl) hg]; decide)]
          exact hK _ _ hI (fun _ _ h => h) rfl
        · intro a' w' K hI hd hq hK
          have hg := hd 4 10 (by kernel_rfl)
          rw [if_neg (by rw [wanted_off _ a' 4 10 true (by rfl) (by rfl) hg]; decide)]
          exact hK _ _ hI (fun _ _ h => h) rfl
        · intro a' w' K hI hd hq hK
          have e10 : a'.eval (.tmp 10) = .bool false := (hd 4 10 (by kernel_rfl))
          have e14 : a'.eval (.tmp 14) = undef := (hd 8 14 (by kernel_rfl))
          clear hd hq
          refine op_value (wanted_free _ _ (by rfl)) (v := .bool false) (w'' := w') ?_ (hK _ _ hI (fun _ _ h => h) rfl)
          clear hK
          simp only [execOp, e10, e14]
          have f10 : a'.tmps[10]?.getD undef = .bool false := (Array.getD_eq_getD_getElem? ..).symm.trans e10
          have f14 : a'.tmps[14]?.getD undef = undef := (Array.getD_eq_getD_getElem? ..).symm.trans e14
          clear e10 e14
          first | rfl | (go_simp <;> exact IntWalk.i64_in _ (by omega))
        · intro a' w' K hI hd hq hK
          have e15 : a'.eval (.tmp 15) = .bool false := (hd 9 15 (by kernel_rfl))
          clear hd hq
          refine op_value (wanted_free _ _ (by rfl)) (v := .bool false) (w'' := w') ?_ (hK _ _ hI (fun _ _ h => h) rfl)
          clear hK
          simp only [execOp, e15]
          have f15 : a'.tmps[15]?.getD undef = .bool false := (Array.getD_eq_getD_getElem? ..).symm.trans e15
          clear e15
          first | rfl | (go_simp <;> exact IntWalk.i64_in _ (by omega))
        · intro a' w' K hI hd hq hK
          have hg := hd 10 16 (by kernel_rfl)
          rw [if_neg (by rw [wanted_off _ a' 10 16 true (by rfl) (by rfl) hg]; decide)]
          exact hK _ _ hI (fun _ _ h => h) rfl
        · intro a' w' K hI hd hq hK
          have hg := hd 10 16 (by kernel_rfl)
          rw [if_neg (by rw [wanted_off _ a' 10 16 true (by rfl) (by rfl) hg]; decide)]
          exact hK _ _ hI (fun _ _ h => h) rfl
        · intro a' w' K hI hd hq hK
          have hg := hd 10 16 (by kernel_rfl)
          rw [if_neg (by rw [wanted_off _ a' 10 16 true (by rfl) (by rfl) hg]; decide)]
          exact hK _ _ hI (fun _ _ h => h) rfl
        · intro a' w' K hI hd hq hK
          have hg := hd 10 16 (by kernel_rfl)
          rw [if_neg (by rw [wanted_off _ a' 10 16 true (by rfl) (by rfl) hg]; decide)]
          exact hK _ _ hI (fun _ _ h => h) rfl
        · intro a' w' K hI hd hq hK
          have hg := hd 10 16 (by kernel_rfl)
          rw [if_neg (by rw [wanted_off _ a' 10 16 true (by rfl) (by rfl) hg]; decide)]
          exact hK _ _ hI (fun _ _ h => h) rfl
        · intro a' w' K hI hd hq hK
          have hg := hd 10 16 (by kernel_rfl)
          rw [if_neg (by rw [wanted_off _ a' 10 16 true (by rfl) (by rfl) hg]; decide)]
          exact hK _ _ hI (fun _ _ h => h) rfl
        · intro a' w' K hI hd hq hK
          have hg := hd 10 16 (by kernel_rfl)
          rw [if_neg (by rw [wanted_off _ a' 10 16 true (by rfl) (by rfl) hg]; decide)]
          exact hK _ _ hI (fun _ _ h => h) rfl
        · intro a' w' K hI hd hq hK
          have hg := hd 10 16 (by kernel_rfl)
          rw [if_neg (by rw [wanted_off _ a' 10 16 true (by rfl) (by rfl) hg]; decide)]
          exact hK _ _ hI (fun _ _ h => h) rfl
        · intro a' w' K hI hd hq hK
          have hg := hd 10 16 (by kernel_rfl)
          rw [if_neg (by rw [wanted_off _ a' 10 16 true (by rfl) (by rfl) hg]; decide)]
          exact hK _ _ hI (fun _ _ h => h) rfl
        · intro a' w' K hI hd hq hK
          have e16 : a'.eval (.tmp 16) = .bool false := (hd 10 16 (by kernel_rfl))
          have e25 : a'.eval (.tmp 25) = undef := (hd 19 25 (by kernel_rfl))
          clear hd hq
          refine op_value (wanted_free _ _ (by rfl)) (v := .bool false) (w'' := w') ?_ (hK _ _ hI (fun _ _ h => h) rfl)
          clear hK
          simp only [execOp, e16, e25]
          have f16 : a'.tmps[16]?.getD undef = .bool false := (Array.getD_eq_getD_getElem? ..).symm.trans e16
          have f25 : a'.tmps[25]?.getD undef = undef := (Array.getD_eq_getD_getElem? ..).symm.trans e25
          clear e16 e25
          first | rfl | (go_simp <;> exact IntWalk.i64_in _ (by omega))
      case fin2 =>
        rintro w' hI _ rfl _ rfl _ rfl _ rfl _ rfl _ rfl _ rfl _ rfl _ rfl _ rfl _ rfl _ rfl _ rfl _ rfl _ rfl _ rfl _ rfl _ rfl _ rfl _ rfl _ rfl
        simp only [Act.put, List.setIfInBounds_toArray, List.set_cons_zero, List.set_cons_succ, FinGoal]
        subst hI
        go_wp2_with fail
        go_ret
        rw [HRT.out]
        exact ⟨rfl, HB.out.drew⟩

end Go.Proofs.Ytjakhemolecbnaa
end
