/-
  The walks of wal's Log, of few, Texts and slices.Clone of strings.
-/
import Derived.Test.YthlbmjjodjepjaaWalFrame
import Derived.Test.YthlbmjjodjepjaaOutline
set_option linter.unusedVariables false
set_option linter.unusedSimpArgs false
namespace Go.Proofs.Ythlbmjjodjepjaa
open Go.RowKit

/-- A slice of strings that reads as L. -/
abbrev RS (w : World) (A : Option Addr) (L : List (List UInt8)) : Prop := RC w A (sv L)
theorem RC.parts {w : World} {A : Option Addr} {l : List Value} (h : RC w A l) (h0 : 0 < l.length) :
    ∃ b o, A = some ⟨b, o, none⟩ ∧ ∀ j u, l[j]? = some u → w.cell? ⟨b, o + j, none⟩ = some u := by
  obtain ⟨⟨b, o, sp⟩, e, hc⟩ := h h0
  have hsp : sp = none := by
    have := hc 0 _ (List.getElem?_eq_getElem h0)
    simp only [Addr.add, if_true] at this
    unfold World.cell? at this
    cases sp with
    | none => rfl
    | some s => simp at this; split at this <;> simp at this
  subst hsp
  refine ⟨b, o, e, fun j u hj => ?_⟩
  have := hc j u hj
  rwa [add_off] at this
theorem sv_get (L : List (List UInt8)) (i : Nat) (h : i < L.length) : (sv L)[i]? = some (.string ⟨L[i].toArray⟩) := by simp [sv, List.getElem?_eq_getElem h]

/-- The string of bytes: unlike bytes, unlike strings. -/
def strB (l : List UInt8) : ByteArray := ⟨l.toArray⟩
theorem strB_inj {a b : List UInt8} (h : strB a = strB b) : a = b := by
  have := congrArg (fun x => x.data.toList) h
  simpa [strB] using this
theorem strB_data (s : ByteArray) : strB s.data.toList = s := data_eq s
theorem strB_size (l : List UInt8) : (strB l).size = l.length := by show l.toArray.size = _; simp
theorem sv_get' (L : List (List UInt8)) (i : Nat) (h : i < L.length) : (sv L)[i]? = some (.string (strB L[i])) := sv_get L i h

set_option maxHeartbeats 1000000 in
theorem few_any (s : ByteArray) (w : World) :
    Calls Try.prog 31 #[.string s] w fun e w' => e = .returned (.string (strB (s.data.toList.take 100))) ∧ w = w' := by
  by_cases h : s.size ≤ 100
  · have e1 : s.data.toList.take 100 = s.data.toList := List.take_of_length_le (by rw [data_length]; omega)
    rw [e1, strB_data]
    have h1 : ¬ ((100 : Int) < (s.size : Int)) := by omega
    clear e1
    go_enter Try.func31, Try.ntmps31
    go_wp2
    go_ret
    exact ⟨rfl, rfl⟩
  · have h1 : (100 : Int) < (s.size : Int) := by omega
    have h2 : (100 : Int) ≤ (s.size : Int) := by omega
    obtain ⟨z, ez⟩ : ∃ z, z = strB (s.data.toList.take 100) := ⟨_, rfl⟩
    rw [← ez]
    have EZ := Lib.hid ez
    clear h ez
    go_enter Try.func31, Try.ntmps31
    go_wp2
    go_ret
    have hz : s.extract 0 100 = z := by
      rw [EZ.out]
      have h := ByteArray.extract_mk s.data.toList 0 100
      rw [data_eq] at h
      simpa [strB] using h
    exact ⟨by rw [← hz]; rfl, rfl⟩

set_option maxHeartbeats 1000000 in
theorem cloneS_any (A : Option Addr) (n c : Nat) (L : List (List UInt8)) (w : World) (hl : L.length = n) (hn : n ≤ 1000000) (hr : RS w A L) (hnil : A = none → c = 0) :
    Calls Try.prog 65 #[.slice A n c] w fun e w' => ∃ v, e = .returned v ∧ w'.ownsRow w.heap.size 9 1 v L.length (sv L) ∧ Below w.heap.size w w' := by
  subst hl
  rcases A with _ | ad
  · have h0 : L = [] := by
      rcases L with _ | ⟨x, l⟩
      · rfl
      · obtain ⟨ad, h, _⟩ := hr (by simp [sv])
        cases h
    subst h0
    obtain rfl := hnil rfl
    clear hr hnil
    have he := fun w => Lib.run_eql_slice_nil (P := Try.prog) w 22 9 none 0 0 0 0 Try.underlying22
    go_enter Try.func65, Try.ntmps65
    go_wp2
    go_ret
    exact ⟨_, rfl, World.ownsRow_nil _ _ _ _, Below.refl _ _⟩
  · clear hnil
    have HR := Lib.hid hr
    clear hr
    have he := fun w => Lib.run_eql_slice_nil (P := Try.prog) w 22 9 (some ad) L.length c 0 0 Try.underlying22
    go_enter Try.func65, Try.ntmps65
    go_wp2_with (at_builtin; refine append_any rfl _ _ 22 rfl w.heap.size 9 (.string ⟨#[]⟩) 1 16 Try.underlying22 infoS rfl (by omega) (by omega) _ 0 [] rfl (World.ownsRow_lit w #[] 0 (Nat.le_refl _) (by simp [maxLen]) rfl) (some ad) L.length c (sv L) rfl (by simp [sv]) (HR.out.below ((Below.refl _ _).alloc (Nat.le_refl _) _)) (sv_one _) ?c1 ?c2 ?_)
    case c1 => omega
    case c2 => simp
    intro v w1 ho hg hat
    have HO := Lib.hid ho
    have HG := Lib.hid hg
    clear ho hg hat
    go_wp2
    go_ret
    exact ⟨_, rfl, by simpa using HO.out, ((Below.refl _ _).alloc (Nat.le_refl _) _).grown HG.out (by simp) (fun k hk => by simp [Value.ownBlock] at hk; omega)⟩

set_option maxHeartbeats 2000000 in
theorem texts_any (A1 A2 : Option Addr) (n1 c1 n2 c2 : Nat) (L1 L2 : List (List UInt8)) (w : World) (hl1 : L1.length = n1) (hl2 : L2.length = n2) (hn : n1 ≤ 10000000) (hm : n2 ≤ 10000000) (h1 : RS w A1 L1) (h2 : RS w A2 L2) :
    Calls Try.prog 28 #[.slice A1 n1 c1, .slice A2 n2 c2] w fun e w' => e = .returned (.bool (decide (L1 = L2))) ∧ Below w.heap.size w w' := by
  subst hl1
  subst hl2
  obtain ⟨R, eR⟩ : ∃ R, R = decide (L1 = L2) := ⟨_, rfl⟩
  rw [← eR]
  have ER := Lib.hid eR
  clear eR
  have H1 := Lib.hid h1
  have H2 := Lib.hid h2
  clear h1 h2
  by_cases hll : L1.length = L2.length
  · have hlb : ((L1.length : Int) != (L2.length : Int)) = false := by simp [hll]
    have HLL := Lib.hid hll
    clear hll
    go_enter Try.func28, Try.ntmps28
    go_wp2_with fail
    go_loopg [5] L1.length (fun k s5 wr => ∃ i : Nat, i ≤ L1.length ∧ k = L1.length - i ∧ s5 = .int .i64 (i : Int) ∧ L1.take i = L2.take i ∧ Below w.heap.size w wr)
    case atStart => exact ⟨0, Nat.zero_le _, by omega, rfl, rfl, Below.refl _ _⟩
    case round =>
      obtain ⟨i, hi, hk, rfl, heq, hb⟩ := hrel
      have HK := Lib.hid hk
      have HB := Lib.hid hb
      have HEQ := Lib.hid heq
      clear hk hb heq
      by_cases hlt : i < L1.length
      · have hlt2 : i < L2.length := by have := HLL.out; omega
        obtain ⟨b1, o1, rfl, e1⟩ := H1.out.parts (by rw [sv_length]; omega)
        obtain ⟨b2, o2, rfl, e2⟩ := H2.out.parts (by rw [sv_length]; omega)
        have k1 := cell_below HB.out (e1 i _ (sv_get' L1 i hlt))
        have k2 := cell_below HB.out (e2 i _ (sv_get' L2 i hlt2))
        have t1 := List.take_succ_eq_append_getElem hlt
        have t2 := List.take_succ_eq_append_getElem hlt2
        by_cases hx : L1[i] = L2[i]
        · have HT := Lib.hid (show L1.take (i + 1) = L2.take (i + 1) by rw [t1, t2, HEQ.out, hx])
          rw [← hx] at k2
          generalize strB L1[i] = z at *
          clear e1 e2 t1 t2 hx
          have hi0 : (0 : Int) ≤ (i : Int) := by omega
          have hi1 : (i : Int) < (L1.length : Int) := by omega
          have hi2 : (i : Int) < (L2.length : Int) := by omega
          have HLT := Lib.hid hlt
          clear hi hlt hlt2
          go_upto_region 6 with fail
          go_region
          all_goals
            go_wp2_with fail
            go_roundg (L1.length - (i + 1))
            case measure => have := HK.out; have := HLT.out; omega
            case rel => exact ⟨i + 1, HLT.out, rfl, by go_num, HT.out, HB.out.drew⟩
        · have hz : ¬ (strB L1[i] = strB L2[i]) := fun h => hx (strB_inj h)
          have HRF := Lib.hid (show R = false by
            rw [ER.out, decide_eq_false_iff_not]
            intro h
            subst h
            exact hx rfl)
          generalize strB L1[i] = z1 at *
          generalize strB L2[i] = z2 at *
          clear e1 e2 t1 t2 hx
          have hi0 : (0 : Int) ≤ (i : Int) := by omega
          have hi1 : (i : Int) < (L1.length : Int) := by omega
          have hi2 : (i : Int) < (L2.length : Int) := by omega
          clear hi hlt hlt2
          have hzb : (z1.toList == z2.toList) = false := by
            rw [beq_eq_false_iff_ne, ByteArray.toList_eq, ByteArray.toList_eq]
            exact fun h => hz (by rw [← data_eq z1, ← data_eq z2, h])
          go_upto_region 6 with fail
          go_region
          all_goals
            go_wp2_with fail
            go_ret
            rw [HRF.out]
            exact ⟨rfl, HB.out.drew⟩
      · obtain rfl : i = L1.length := by omega
        have HRT := Lib.hid (show R = true by
          rw [ER.out, decide_eq_true_iff]
          have := HEQ.out
          rwa [List.take_length, HLL.out, List.take_length] at this)
        clear hlt hi
        go_wp2_with fail
        go_ret
        rw [HRT.out]
        exact ⟨rfl, HB.out⟩
  · have hlb : ((L1.length : Int) != (L2.length : Int)) = true := by simp; omega
    have HRF := Lib.hid (show R = false by
      rw [ER.out, decide_eq_false_iff_not]
      intro h
      exact hll (by rw [h]))
    clear hll
    go_enter Try.func28, Try.ntmps28
    go_wp2_with fail
    go_ret
    rw [HRF.out]
    exact ⟨rfl, Below.refl _ _⟩

/-- A log at block pl: its records (the row va), its disk at block pd. -/
structure LogAt (w : World) (B pl pd : Nat) (va vd : Value) (recs : List (List UInt8)) (b : List UInt8) (safe : Nat) : Prop where
  at_ : w.heap[pl]? = some (.cells #[.pointer (some ⟨pd, 0, none⟩), va] 97 (0, 0))
  own : w.ownsRow B 9 1 va recs.length (sv recs)
  disk : DiskAt w B pd vd b safe
  base : B ≤ pl
  n1 : pl ≠ pd
  n2 : va.ownBlock ≠ some pl
  n3 : va.ownBlock ≠ some pd
  n4 : vd.ownBlock ≠ some pl
  n5 : ∀ k, va.ownBlock = some k → vd.ownBlock ≠ some k

namespace LogAt
variable {w w' : World} {B pl pd : Nat} {va vd : Value} {recs : List (List UInt8)} {b : List UInt8} {safe : Nat}
theorem lt (h : LogAt w B pl pd va vd recs b safe) : pl < w.heap.size := (Array.getElem?_eq_some_iff.1 h.at_).1
theorem c0 (h : LogAt w B pl pd va vd recs b safe) : w.cell? ⟨pl, 0, none⟩ = some (.pointer (some ⟨pd, 0, none⟩)) := by rw [cell_of_row w pl 0 _ _ _ h.at_]; rfl
theorem c1 (h : LogAt w B pl pd va vd recs b safe) : w.cell? ⟨pl, 1, none⟩ = some va := by rw [cell_of_row w pl 1 _ _ _ h.at_]; rfl
theorem f0 (h : LogAt w B pl pd va vd recs b safe) (j : Nat) : w.frozen? ⟨pl, j, none⟩ = false := frozen_of_row w pl j _ _ h.at_
/-- The blocks that a log's calls may turn. -/
def foot (pl pd : Nat) (va vd : Value) (k : Nat) : Prop := k = pl ∨ k = pd ∨ va.ownBlock = some k ∨ vd.ownBlock = some k
theorem upd {F : Nat → Prop} (h : LogAt w B pl pd va vd recs b safe) (u : Upd F w w') (hp : ¬ F pl) (hd : ¬ F pd) (hv : ∀ k, va.ownBlock = some k → ¬ F k) (hv' : ∀ k, vd.ownBlock = some k → ¬ F k) : LogAt w' B pl pd va vd recs b safe :=
  ⟨(u.block pl h.lt hp).trans h.at_, own_upd h.own u hv, h.disk.upd u hd hv', h.base, h.n1, h.n2, h.n3, h.n4, h.n5⟩
theorem below (h : LogAt w B pl pd va vd recs b safe) (hb : Below w.heap.size w w') : LogAt w' B pl pd va vd recs b safe := h.upd (Upd.of_below (F := fun _ => False) hb) id id (fun _ _ => id) (fun _ _ => id)
theorem drew (h : LogAt w B pl pd va vd recs b safe) : LogAt w.drew B pl pd va vd recs b safe := ⟨h.at_, h.own, h.disk.drew, h.base, h.n1, h.n2, h.n3, h.n4, h.n5⟩
theorem foot_base (h : LogAt w B pl pd va vd recs b safe) : ∀ k, foot pl pd va vd k → B ≤ k := by
  rintro k (rfl | rfl | hk | hk)
  · exact h.base
  · exact h.disk.base
  · exact (h.own.lt k hk).1
  · exact (h.disk.own.lt k hk).1
theorem foot_lt (h : LogAt w B pl pd va vd recs b safe) : ∀ k, foot pl pd va vd k → k < w.heap.size := by
  rintro k (rfl | rfl | hk | hk)
  · exact h.lt
  · exact h.disk.lt
  · exact (h.own.lt k hk).2
  · exact (h.disk.own.lt k hk).2
theorem goes {w0 : World} (h : LogAt w B pl pd va vd recs b safe) (hb : Below B w0 w) (u : Upd (foot pl pd va vd) w w') : Below B w0 w' :=
  below_upd hb (by have := h.lt; have := h.base; omega) u h.foot_base
end LogAt

/-- What a call that turns the log leaves. -/
def LogOut (w : World) (B pl pd : Nat) (va vd : Value) (recs : List (List UInt8)) (b : List UInt8) (safe : Nat) (ret : Value) (e : Ending) (w' : World) : Prop :=
  ∃ va' vd', e = .returned ret ∧ LogAt w' B pl pd va' vd' recs b safe ∧ Upd (LogAt.foot pl pd va vd) w w' ∧ (∀ k, va'.ownBlock = some k → va.ownBlock = some k ∨ w.heap.size ≤ k) ∧ (∀ k, vd'.ownBlock = some k → vd.ownBlock = some k ∨ w.heap.size ≤ k)

set_option maxHeartbeats 2000000 in
/-- Open: what the disk has. -/
theorem open_any (w : World) (B pd : Nat) (vd : Value) (b : List UInt8) (safe : Nat) (h : DiskAt w B pd vd b safe) (hn : (scanOf b).2 ≤ b.length) :
    Calls Try.prog 34 #[.pointer (some ⟨pd, 0, none⟩)] w fun e w' => ∃ pl va vd', e = .returned (.tuple #[.pointer (some ⟨pl, 0, none⟩), .int .i64 0]) ∧
      LogAt w' B pl pd va vd' (scanOf b).1 (b.take (scanOf b).2) (min safe (scanOf b).2) ∧ Upd (DiskAt.foot pd vd) w w' ∧ w.heap.size ≤ pl ∧ (∀ k, va.ownBlock = some k → w.heap.size ≤ k) ∧ (∀ k, vd'.ownBlock = some k → vd.ownBlock = some k ∨ w.heap.size ≤ k) := by
  have H := Lib.hid h
  have hsm := h.small
  obtain ⟨R, eR⟩ : ∃ R, R = scanOf b := ⟨_, rfl⟩
  rw [← eR] at hn ⊢
  have ER := Lib.hid eR
  have hn0 : ((R.2 : Nat) : Int) ≤ (b.length : Int) := by omega
  clear h eR
  go_enter Try.func34, Try.ntmps34
  go_wp2_with fail
  refine (diskBytes_any w B pd vd b safe H.out).mono ?_
  rintro e w1 ⟨x, rfl, ho, hb⟩
  obtain ⟨A, c, rfl, hbc⟩ := own_slice ho
  have HB := Lib.hid hb
  have HO := Lib.hid ho
  have D1 := Lib.hid (H.out.below hb)
  clear ho hb
  go_wp2_with fail
  refine (scan_any A b.length c b w1 rfl (by omega) hbc (own_RC HO.out).bytes).mono ?_
  rw [← ER.out]
  rintro e w2 ⟨va0, rfl, ho, hb⟩
  obtain ⟨Aa, ca, rfl, _⟩ := own_slice ho
  have B2 := Lib.hid (below_below HB.out HB.out.size hb)
  have O2 := Lib.hid ho
  have D2 := Lib.hid (D1.out.below hb)
  have hsz := hb.size
  have hsz1 := HB.out.size
  clear ho hb
  go_wp2_with fail
  refine (diskCut_any w2 B pd vd b safe D2.out R.2 hn).mono ?_
  rintro e w3 ⟨vd', rfl, hd, hu, hv⟩
  have hfl : ∀ k, DiskAt.foot pd vd k → k < w.heap.size := H.out.foot_lt
  have O3 := Lib.hid (own_upd O2.out hu (fun k hk hf => by have h1 := (World.ownsRow.lt O2.out k hk).1; have := hfl k hf; omega))
  have D3 := Lib.hid hd
  have U3 := Lib.hid hu
  have HV := Lib.hid hv
  have HFL := Lib.hid hfl
  have hsz3 := hu.size
  have va1 : ∀ k, (Value.slice Aa R.1.length ca).ownBlock = some k → w1.heap.size ≤ k ∧ k < w2.heap.size := fun k hk => World.ownsRow.lt O2.out k hk
  have VA := Lib.hid va1
  clear hd hu hv hfl va1
  go_wp2_with fail
  go_ret2
  have hA3 := (D3.out.below ((Below.refl _ _).alloc (Nat.le_refl _) (.cells #[.pointer (some ⟨pd, 0, none⟩), .slice Aa R.1.length ca] 97)))
  have hpd := D3.out.lt
  have hvd3 := fun k hk => (World.ownsRow.lt D3.out.own k hk).2
  have hvd : ∀ k, vd'.ownBlock = some k → vd.ownBlock = some k ∨ k = w2.heap.size := by
    intro k hk
    rcases HV.out with h | h
    · exact .inl (h ▸ hk)
    · rw [h] at hk; cases hk; exact .inr rfl
  have hvb : ∀ k, vd.ownBlock = some k → k < w.heap.size := fun k hk => HFL.out k (.inr hk)
  refine ⟨w3.heap.size, _, vd', rfl, ⟨heap_alloc_new w3 _, own_lower (O3.out.alloc _) (by have := H.out.base; have := H.out.lt; omega), hA3, by have := D3.out.base; omega, by omega, ?_, ?_, ?_, ?_⟩, ?_, by omega, ?_, ?_⟩
  · intro e
    have := VA.out _ e
    omega
  · intro e
    have := VA.out _ e
    have := H.out.lt
    omega
  · intro e
    have := hvd3 _ e
    omega
  · intro k hk e
    have h1 := VA.out k hk
    rcases hvd k e with h | h
    · have := hvb k h; omega
    · omega
  · exact (((Upd.of_below B2.out).trans U3.out (fun i _ h => h)).alloc _)
  · intro k hk
    have := VA.out k hk
    omega
  · intro k hk
    rcases hvd k hk with h | h
    · exact .inl h
    · right; omega

set_option maxHeartbeats 4000000 in
theorem put_log (w : World) (B pl pd : Nat) (va vd : Value) (recs : List (List UInt8)) (b : List UInt8) (safe : Nat) (h : LogAt w B pl pd va vd recs b safe) (first : Bool) (s : ByteArray) (hs : s.size ≤ 4000) (hf : b.length + (9 + s.size) ≤ 4194304) :
    Calls Try.prog 63 #[.pointer (some ⟨pl, 0, none⟩), .bool first, .string s] w fun e w' => ∃ vd', e = .returned (.int .i64 0) ∧ LogAt w' B pl pd va vd' recs (b ++ frameOf first s.data.toList) safe ∧ Upd (DiskAt.foot pd vd) w w' ∧ (∀ k, vd'.ownBlock = some k → vd.ownBlock = some k ∨ w.heap.size ≤ k) := by
  have H := Lib.hid h
  have k0 := h.c0
  have hlt := h.lt
  have hs' : (s.size : Int) ≤ 4000 := by omega
  have HS := Lib.hid hs
  have HF := Lib.hid hf
  have HL := Lib.hid (data_length s)
  clear h hs hf
  obtain ⟨l, el⟩ : ∃ l, l = s.data.toList := ⟨_, rfl⟩
  rw [← el] at HL ⊢
  have EL := Lib.hid el
  clear el
  go_enter Try.func63, Try.ntmps63
  go_upto_region 3 with fail
  have fin : ∀ (w1 w2 : World) (v1 : Value) (e : Ending), Below w.heap.size w w1 → w1.ownsRow w.heap.size 5 1 v1 (frameOf first l).length (bv (frameOf first l)) →
      DiskOut w1 B pd vd (b ++ frameOf first l) safe (.int .i64 0) e w2 → e = .returned (.int .i64 0) ∧ ∃ vd', LogAt w2 B pl pd va vd' recs (b ++ frameOf first l) safe ∧ Upd (DiskAt.foot pd vd) w w2 ∧ (∀ k, vd'.ownBlock = some k → vd.ownBlock = some k ∨ w.heap.size ≤ k) := by
    rintro w1 w2 v1 e hb ho ⟨vd', rfl, hd, hu, hv⟩
    have hsz := hb.size
    have hvd : ∀ k, vd'.ownBlock = some k → vd.ownBlock = some k ∨ w.heap.size ≤ k := by
      intro k hk
      rcases hv with h | h
      · exact .inl (h ▸ hk)
      · rw [h] at hk; cases hk; exact .inr hsz
    have U := (Upd.of_below (F := DiskAt.foot pd vd) hb).trans hu (fun i _ h => h)
    have L := H.out
    refine ⟨rfl, vd', ⟨(U.block pl L.lt ?_).trans L.at_, own_upd L.own U ?_, hd, L.base, L.n1, L.n2, L.n3, ?_, ?_⟩, U, hvd⟩
    · rintro (h | h)
      · exact L.n1 h
      · exact L.n4 h
    · rintro k hk (h | h)
      · exact L.n3 (h ▸ hk)
      · exact L.n5 k hk h
    · intro e
      rcases hvd _ e with h | h
      · exact L.n4 h
      · have := L.lt; omega
    · intro k hk e
      rcases hvd k e with h | h
      · exact L.n5 k hk h
      · have := (L.own.lt k hk).2; omega
  have FIN := Lib.hid fin
  clear fin
  go_region_law (first
    | (refine op_call #[.bool first, .string s] (by simp [Region.wanted]) rfl Try.func23 (by kernel_rfl) rfl (by simp [Act.eval, Act.put]) ?_; refine (frame_any first s _ (by have := HS.out; omega)).mono ?_; rw [← EL.out]; rintro e w1 ⟨v1, rfl, ho1, hb1⟩; obtain ⟨A1, c1, rfl, _⟩ := own_slice ho1; have k1 := cell_below (w := w.drew) hb1 k0; refine ⟨_, rfl, ?_⟩)
    | (refine op_call #[.pointer (some ⟨pd, 0, none⟩), .slice A1 (frameOf first l).length c1] (by simp [Region.wanted]) rfl Try.func41 (by kernel_rfl) rfl (by simp [Act.eval, Act.put]) ?_; refine (diskAppend_any _ B pd vd b safe (H.out.disk.drew.below hb1) A1 _ c1 (frameOf first l) rfl (own_RC ho1).bytes (by rw [frameOf_length]; have := HF.out; have := HL.out; omega)).mono ?_; intro e w2 hout; have hfin := FIN.out w1 w2 _ e (((Below.refl w.heap.size w).drew).trans hb1) ho1 hout; obtain ⟨rfl, hfin⟩ := hfin; refine ⟨_, rfl, ?_⟩))
  all_goals
    go_wp2_with fail
    go_ret
    obtain ⟨vd', h1, h2, h3⟩ := hfin
    exact ⟨vd', rfl, h1, h2, h3⟩

/-- The records are set anew. -/
theorem LogAt.set {w1 w2 : World} {B pl pd : Nat} {va vd v2 : Value} {recs recs' : List (List UInt8)} {b : List UInt8} {safe : Nat} (L : LogAt w1 B pl pd va vd recs b safe) (U : Upd (fun k => va.ownBlock = some k) w1 w2)
    (ho : w2.ownsRow B 9 1 v2 recs'.length (sv recs')) (hv : ∀ k, v2.ownBlock = some k → va.ownBlock = some k ∨ w1.heap.size ≤ k) :
    LogAt (w2.setCell ⟨pl, 1, none⟩ v2) B pl pd v2 vd recs' b safe ∧ Upd (fun k => k = pl ∨ va.ownBlock = some k) w1 (w2.setCell ⟨pl, 1, none⟩ v2) := by
  have hlt := L.lt
  have hplt := L.disk.lt
  have hne : v2.ownBlock ≠ some pl := by
    intro e
    rcases hv _ e with h | h
    · exact L.n2 h
    · omega
  have U2 : Upd (fun k => k = pl ∨ va.ownBlock = some k) w1 (w2.setCell ⟨pl, 1, none⟩ v2) := (U.mono (fun k _ h => .inr h)).setCell (fun _ => .inl rfl) _
  refine ⟨⟨?_, own_setCell ho hne _, L.disk.upd U2 ?_ ?_, L.base, L.n1, hne, ?_, L.n4, ?_⟩, U2⟩
  · rw [setCell_at ((U.block pl hlt (fun e => L.n2 e)).trans L.at_)]
    rfl
  · rintro (h | h)
    · exact L.n1 h.symm
    · exact L.n3 h
  · rintro k hk (h | h)
    · exact L.n4 (h ▸ hk)
    · exact L.n5 k h hk
  · intro e
    rcases hv _ e with h | h
    · exact L.n3 h
    · omega
  · intro k hk e
    rcases hv k hk with h | h
    · exact L.n5 k h e
    · have := (L.disk.own.lt k e).2; omega

theorem strB_toList (l : List UInt8) : (strB l).data.toList = l := by simp [strB]

set_option maxHeartbeats 2000000 in
theorem logAppend_any (w : World) (B pl pd : Nat) (va vd : Value) (recs : List (List UInt8)) (b : List UInt8) (safe : Nat) (h : LogAt w B pl pd va vd recs b safe) (l : List UInt8) (hs : l.length ≤ 4000) (hf : b.length + (9 + l.length) ≤ 4194304) (hrl : recs.length ≤ 1000000) :
    Calls Try.prog 35 #[.pointer (some ⟨pl, 0, none⟩), .string (strB l)] w (LogOut w B pl pd va vd (recs ++ [l]) (b ++ frameOf false l) safe (.int .i64 0)) := by
  have H := Lib.hid h
  have hz := strB_size l
  have HL := Lib.hid (strB_toList l)
  obtain ⟨s, es⟩ : ∃ s, s = strB l := ⟨_, rfl⟩
  rw [← es] at HL hz ⊢
  have HS := Lib.hid es
  have HZ := Lib.hid hz
  have HLS := Lib.hid hs
  have HF := Lib.hid hf
  clear h hz es hs hf
  go_enter Try.func35, Try.ntmps35
  go_wp2_with fail
  refine (put_log w B pl pd va vd recs b safe H.out false s (by rw [HZ.out]; exact HLS.out) (by rw [HZ.out]; exact HF.out)).mono ?_
  rw [HL.out]
  rintro e w1 ⟨vd', rfl, hL, hU, hv⟩
  have c1 := hL.c1
  have hB := hL.base
  have hlt := hL.lt
  have L1 := Lib.hid hL
  have U1 := Lib.hid hU
  have V1 := Lib.hid hv
  clear hL hU hv
  go_wp2_with (at_builtin; refine append_any rfl _ _ 22 rfl B 9 (.string ⟨#[]⟩) 1 16 Try.underlying22 infoS rfl (by omega) (by omega) va recs.length (sv recs) rfl (L1.out.own.alloc _) _ 1 _ [.string s] rfl rfl (RC_newL w1 [.string s] 9) (by rw [HS.out]; exact sv_one [l]) ?c1 ?c2 ?_)
  case c1 => omega
  case c2 => simp; omega
  intro v2 w2 ho hg hat
  obtain ⟨A2, c2, rfl, _⟩ := own_slice ho
  have hU2 : Upd (fun k => va.ownBlock = some k) w1 w2 := ((Upd.refl _ w1).alloc _).grown hg (fun k hk _ => hk)
  have hw2 := (hU2.block pl hlt (fun e => L1.out.n2 e)).trans L1.out.at_
  have k1 : w2.cell? ⟨pl, 1, none⟩ = some va := (cell_of_row w2 pl 1 _ _ _ hw2).trans rfl
  have kf : w2.frozen? ⟨pl, 1, none⟩ = false := frozen_of_row w2 pl 1 _ _ hw2
  have hv2 : ∀ k, (Value.slice A2 (recs.length + 1) c2).ownBlock = some k → va.ownBlock = some k ∨ w1.heap.size ≤ k := by
    intro k hk
    rcases hat with h | h
    · exact .inl (h ▸ hk)
    · rw [h] at hk; simp at hk; exact .inr (by omega)
  have ho2 : w2.ownsRow B 9 1 (.slice A2 (recs.length + 1) c2) (recs ++ [l]).length (sv (recs ++ [l])) := by
    rw [List.length_append, sv_append]
    rw [HS.out] at ho
    exact ho
  have HS2 := Lib.hid (L1.out.set hU2 ho2 hv2)
  have HV2 := Lib.hid hv2
  clear ho hg hat hU2 hw2 hv2 ho2
  go_wp2_with fail
  go_ret
  refine ⟨_, _, rfl, HS2.out.1, ?_, ?_, V1.out⟩
  · refine (U1.out.mono ?_).trans HS2.out.2 ?_
    · rintro k _ (h | h)
      · exact .inr (.inl h)
      · exact .inr (.inr (.inr h))
    · rintro k _ (h | h)
      · exact .inl h
      · exact .inr (.inr (.inl h))
  · intro k hk
    rcases HV2.out k hk with h | h
    · exact .inl h
    · exact .inr (Nat.le_trans U1.out.size h)

set_option maxHeartbeats 2000000 in
theorem logReset_any (w : World) (B pl pd : Nat) (va vd : Value) (recs : List (List UInt8)) (b : List UInt8) (safe : Nat) (h : LogAt w B pl pd va vd recs b safe) (l : List UInt8) (hs : l.length ≤ 4000) (hf : b.length + (9 + l.length) ≤ 4194304) :
    Calls Try.prog 38 #[.pointer (some ⟨pl, 0, none⟩), .string (strB l)] w (LogOut w B pl pd va vd [l] (b ++ frameOf true l) safe (.int .i64 0)) := by
  have H := Lib.hid h
  have hz := strB_size l
  have HL := Lib.hid (strB_toList l)
  obtain ⟨s, es⟩ : ∃ s, s = strB l := ⟨_, rfl⟩
  rw [← es] at HL hz ⊢
  have HS := Lib.hid es
  have HZ := Lib.hid hz
  have HLS := Lib.hid hs
  have HF := Lib.hid hf
  clear h hz es hs hf
  go_enter Try.func38, Try.ntmps38
  go_wp2_with fail
  refine (put_log w B pl pd va vd recs b safe H.out true s (by rw [HZ.out]; exact HLS.out) (by rw [HZ.out]; exact HF.out)).mono ?_
  rw [HL.out]
  rintro e w1 ⟨vd', rfl, hL, hU, hv⟩
  obtain ⟨Aa, ca, rfl, _⟩ := own_slice hL.own
  have c1 := hL.c1
  have f1 := hL.f0 1
  have hB := hL.base
  have hlt := hL.lt
  have hU2 : Upd (fun k => (Value.slice Aa recs.length ca).ownBlock = some k) w1 (w1.alloc (.cells #[.string s] 9)) := (Upd.refl _ w1).alloc _
  have ho2 : (w1.alloc (.cells #[.string s] 9)).ownsRow B 9 1 (.slice (some ⟨w1.heap.size, 0, none⟩) 1 1) ([l] : List (List UInt8)).length (sv [l]) := by
    rw [show sv [l] = [.string s] by rw [HS.out]; rfl]
    exact World.ownsRow_lit w1 #[.string s] 1 (by omega) (by simp [maxLen]) rfl
  have hv2 : ∀ k, (Value.slice (some ⟨w1.heap.size, 0, none⟩) 1 1).ownBlock = some k → (Value.slice Aa recs.length ca).ownBlock = some k ∨ w1.heap.size ≤ k := by
    intro k hk
    simp [Value.ownBlock] at hk
    exact .inr (by omega)
  have hS2 := hL.set hU2 ho2 hv2
  rw [World.setCell_alloc_past _ _ _ _ hlt] at hS2
  have HS2 := Lib.hid hS2
  have L1 := Lib.hid hL
  have U1 := Lib.hid hU
  have V1 := Lib.hid hv
  clear hL hU hv hU2 ho2 hv2 hS2
  go_wp2_with fail
  go_ret
  refine ⟨_, _, rfl, HS2.out.1, ?_, ?_, V1.out⟩
  · refine (U1.out.mono ?_).trans HS2.out.2 ?_
    · rintro k _ (h | h)
      · exact .inr (.inl h)
      · exact .inr (.inr (.inr h))
    · rintro k _ (h | h)
      · exact .inl h
      · exact .inr (.inr (.inl h))
  · intro k hk
    simp [Value.ownBlock] at hk
    have := U1.out.size
    exact .inr (by omega)

set_option maxHeartbeats 1000000 in
theorem logSync_any (w : World) (B pl pd : Nat) (va vd : Value) (recs : List (List UInt8)) (b : List UInt8) (safe : Nat) (h : LogAt w B pl pd va vd recs b safe) :
    Calls Try.prog 36 #[.pointer (some ⟨pl, 0, none⟩)] w (LogOut w B pl pd va vd recs b b.length (.tuple #[])) := by
  have k0 := h.c0
  have H := Lib.hid h
  clear h
  go_enter Try.func36, Try.ntmps36
  go_wp2_with fail
  refine (diskSync_any w B pd vd b safe H.out.disk).mono ?_
  rintro e w1 ⟨vd', rfl, hd, hu, hv⟩
  have L := H.out
  have hvd : ∀ k, vd'.ownBlock = some k → vd.ownBlock = some k ∨ w.heap.size ≤ k := by
    intro k hk
    rcases hv with h | h
    · exact .inl (h ▸ hk)
    · rw [h] at hk; cases hk; exact .inr (Nat.le_refl _)
  have hL1 : LogAt w1 B pl pd va vd' recs b b.length := by
    refine ⟨(hu.block pl L.lt ?_).trans L.at_, own_upd L.own hu ?_, hd, L.base, L.n1, L.n2, L.n3, ?_, ?_⟩
    · rintro (h | h)
      · exact L.n1 h
      · exact L.n4 h
    · rintro k hk (h | h)
      · exact L.n3 (h ▸ hk)
      · exact L.n5 k hk h
    · intro e
      rcases hvd _ e with h | h
      · exact L.n4 h
      · have := L.lt; omega
    · intro k hk e
      rcases hvd k e with h | h
      · exact L.n5 k hk h
      · have := (L.own.lt k hk).2; omega
  have HL1 := Lib.hid hL1
  have HU := Lib.hid hu
  have HV := Lib.hid hvd
  clear hd hu hv hvd hL1 L
  go_wp2_with fail
  go_end0
  refine ⟨_, _, rfl, HL1.out, HU.out.mono ?_, fun k hk => .inl hk, HV.out⟩
  rintro k _ (h | h)
  · exact .inr (.inl h)
  · exact .inr (.inr (.inr h))

set_option maxHeartbeats 1000000 in
theorem logAll_any (w : World) (B pl pd : Nat) (va vd : Value) (recs : List (List UInt8)) (b : List UInt8) (safe : Nat) (h : LogAt w B pl pd va vd recs b safe) (hn : recs.length ≤ 1000000) :
    Calls Try.prog 37 #[.pointer (some ⟨pl, 0, none⟩)] w fun e w' => ∃ v, e = .returned v ∧ w'.ownsRow w.heap.size 9 1 v recs.length (sv recs) ∧ Below w.heap.size w w' := by
  have hnil : ∀ A c, va = .slice A recs.length c → A = none → c = 0 := by
    intro A c e1 e2
    subst e1
    subst e2
    rcases h.own.2 with ⟨h', _⟩ | ⟨g, cap, cur, h', _⟩
    · simp at h'; exact h'.2
    · simp at h'
  obtain ⟨A, c, rfl, _⟩ := own_slice h.own
  have hni := hnil A c rfl
  have k1 := h.c1
  have H := Lib.hid h
  have HN := Lib.hid hni
  clear h hni hnil
  go_enter Try.func37, Try.ntmps37
  go_wp2_with fail
  refine (cloneS_any A _ c recs _ rfl hn (own_RC H.out.own) HN.out).mono ?_
  rintro e w1 ⟨x, rfl, ho, hb⟩
  have HO := Lib.hid ho
  have HB := Lib.hid hb
  clear ho hb
  go_wp2_with fail
  go_ret
  exact ⟨_, rfl, HO.out, HB.out⟩

set_option maxHeartbeats 400000 in
theorem logLen_any (w : World) (B pl pd : Nat) (va vd : Value) (recs : List (List UInt8)) (b : List UInt8) (safe : Nat) (h : LogAt w B pl pd va vd recs b safe) :
    Calls Try.prog 40 #[.pointer (some ⟨pl, 0, none⟩)] w fun e w' => e = .returned (.int .i64 (recs.length : Int)) ∧ w = w' := by
  obtain ⟨A, c, rfl, _⟩ := own_slice h.own
  have k1 := h.c1
  clear h
  go_enter Try.func40, Try.ntmps40
  go_wp2
  go_ret
  exact ⟨rfl, rfl⟩

end Go.Proofs.Ythlbmjjodjepjaa
