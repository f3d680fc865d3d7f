/-
  The walk of Decode, of the chain, on the bytes of a chain that was made.
-/
import Derived.Test.YthlbmjjodjepjaaChainWire
import Derived.Test.YthlbmjjodjepjaaReadU
import Derived.Test.YthlbmjjodjepjaaKnown19
set_option linter.unusedVariables false
set_option linter.unusedSimpArgs false
namespace Go.Proofs.Ythlbmjjodjepjaa
open Go.RowKit

theorem encL_split (M : List (List UInt8 × List UInt8)) (i : Nat) : encL M = encL (M.take i) ++ encL (M.drop i) := by
  rw [encL, encL, encL, ← List.flatMap_append, List.take_append_drop]
/-- Where link i begins. -/
def posOf (M : List (List UInt8 × List UInt8)) (i : Nat) : Nat := 4 + (encL (M.take i)).length
theorem posOf_zero (M : List (List UInt8 × List UInt8)) : posOf M 0 = 4 := by simp [posOf, encL]
theorem posOf_all (M : List (List UInt8 × List UInt8)) : posOf M M.length = (encOf M).length := by simp [posOf, encOf, be4n_length]
theorem posOf_succ (M : List (List UInt8 × List UInt8)) (i : Nat) (h : i < M.length) (h2 : (M[i]).2.length = 32) : posOf M (i + 1) = posOf M i + 4 + (M[i]).1.length + 32 := by
  unfold posOf
  rw [List.take_succ_eq_append_getElem h, encL_snoc]
  simp only [List.length_append, be4n_length, h2]
  omega
theorem enc_drop (M : List (List UInt8 × List UInt8)) (i : Nat) : (encOf M).drop (posOf M i) = encL (M.drop i) := by
  unfold encOf posOf
  rw [encL_split M i, ← List.append_assoc, List.drop_append_of_le_length (by simp only [List.length_append, be4n_length]; omega), List.drop_of_length_le (by simp only [List.length_append, be4n_length]; omega), List.nil_append]
theorem enc_at (M : List (List UInt8 × List UInt8)) (i : Nat) (h : i < M.length) : ∃ t, (encOf M).drop (posOf M i) = be4n (M[i]).1.length ++ ((M[i]).1 ++ ((M[i]).2 ++ t)) := by
  rw [enc_drop, List.drop_eq_getElem_cons h, encL, List.flatMap_cons]
  refine ⟨(M.drop (i + 1)).flatMap fun x => be4n x.1.length ++ x.1 ++ x.2, ?_⟩
  simp only [List.append_assoc]
theorem enc_four (l : List UInt8) (a : Nat) (t h r : List UInt8) (ht : t.length ≤ 4000) (e : l.drop a = be4n t.length ++ (t ++ (h ++ r))) : four (l.drop a) = t.length := by
  rw [e]
  exact four_be4 _ (by omega) _
theorem enc_text (l : List UInt8) (a : Nat) (t h r : List UInt8) (e : l.drop a = be4n t.length ++ (t ++ (h ++ r))) : (l.drop (a + 4)).take t.length = t := by
  rw [← List.drop_drop, e, List.drop_left' (be4n_length _), List.take_left]
theorem enc_byte (l : List UInt8) (a : Nat) (t h r : List UInt8) (e : l.drop a = be4n t.length ++ (t ++ (h ++ r))) (j : Nat) (hj : j < h.length) : bt l (a + 4 + t.length + j) = bt h j := by
  have e2 : l.drop (a + 4 + t.length) = h ++ r := by
    rw [← List.drop_drop, ← List.drop_drop, e, List.drop_left' (be4n_length _), List.drop_left]
  have e3 := congrArg (fun x => x[j]?) e2
  simp only [List.getElem?_drop, List.getElem?_append_left hj] at e3
  simp only [bt, List.getD_eq_getElem?_getD, e3]
/-- A head of which j bytes are read. -/
def hpB (h : List UInt8) (j : Nat) : List UInt8 := h.take j ++ List.replicate (32 - j) 0
theorem hpB_length (h : List UInt8) (j : Nat) (hh : h.length = 32) (hj : j ≤ 32) : (hpB h j).length = 32 := by simp [hpB, hh]; omega
theorem hpB_zero (h : List UInt8) : hpB h 0 = hd0 := by simp [hpB, hd0]
theorem hpB_done (h : List UInt8) (hh : h.length = 32) : hpB h 32 = h := by rw [hpB, List.take_of_length_le (by omega)]; simp
theorem hpB_succ (h : List UInt8) (j : Nat) (hh : h.length = 32) (hj : j < 32) : (hpB h j).set j (bt h j) = hpB h (j + 1) := by
  unfold hpB
  rw [List.set_append_right _ _ (by rw [List.length_take]; omega), List.length_take, Nat.min_eq_left (by omega), Nat.sub_self, show 32 - j = (32 - (j + 1)) + 1 by omega, List.replicate_succ,
    List.take_succ_eq_append_getElem (by omega : j < h.length), List.set_cons_zero, List.append_assoc]
  congr 1
  simp [bt, List.getD_eq_getElem?_getD, List.getElem?_eq_getElem (show j < h.length by omega)]
theorem lk_set (t h : List UInt8) (j : Nat) (x : UInt8) : (lk (t, h)).set (1 + j) (.int .u8 (un8 x)) = lk (t, h.set j x) := by
  unfold lk
  rw [Nat.add_comm 1 j, List.set_cons_succ, bv_set]
theorem lk_frozen {w : World} {z : Nat} {cs : Array Value} (h : w.heap[z]? = some (.cells cs 30)) (j : Nat) : w.frozen? ⟨z, j, none⟩ = false := by
  unfold World.frozen?
  simp [h]
theorem built_text (s : List UInt8) : Try.prog.built 30 [(0, .string (strB s))] = some (lk (s, hd0)).toArray := by
  unfold lk
  simp only []
  generalize strB s = q
  kernel_rfl
theorem tail67 (t : List Value) (h : t.length = 67) : ∃ u : Nat → Value, t = [u 9, u 10, u 11, u 12, u 13, u 14, u 15, u 16, u 17, u 18, u 19, u 20, u 21, u 22, u 23, u 24, u 25, u 26, u 27, u 28, u 29, u 30, u 31, u 32, u 33, u 34, u 35, u 36, u 37, u 38, u 39, u 40, u 41, u 42, u 43, u 44, u 45, u 46, u 47, u 48, u 49, u 50, u 51, u 52, u 53, u 54, u 55, u 56, u 57, u 58, u 59, u 60, u 61, u 62, u 63, u 64, u 65, u 66, u 67, u 68, u 69, u 70, u 71, u 72, u 73, u 74, u 75] := by
  refine ⟨fun k => t.getD (k - 9) undef, ?_⟩
  have e : t = (List.range 67).map fun k => t.getD k undef := by
    apply List.ext_getElem
    · simp [h]
    · intro i h1 h2
      simp [List.getD_eq_getElem?_getD, List.getElem?_eq_getElem h1]
  exact e
theorem infoI : (Try.prog.info? 3).map (fun i => (i.zero, i.size, i.bytes)) = some (some (.int .i64 0), 1, 8) := by kernel_rfl

set_option maxRecDepth 100000 in
set_option maxHeartbeats 16000000 in
theorem decode_made (A : Option Addr) (n c : Nat) (L : List (List UInt8)) (w : World) (hl : (encOf (mkOf L)).length = n) (hLn : L.length ≤ 4000) (hs : ∀ x ∈ L, x.length ≤ 4000) (hr : RB w A (encOf (mkOf L))) (hnil : A = none → c = 0) :
    Calls Try.prog 51 #[.slice A n c] w fun e w' => ∃ v, e = .returned (.tuple #[v, .int .i64 0, .int .i64 0]) ∧ w'.ownsRow w.heap.size 30 33 v L.length (lv (mkOf L)) ∧ Below w.heap.size w w' := by
  subst hl
  have HR := Lib.hid hr
  have HNIL := Lib.hid hnil
  have HSM := Lib.hid (show ∀ x ∈ L, x.length ≤ 1000000 from fun x hx => by have := hs x hx; omega)
  obtain ⟨M, eM⟩ : ∃ M, M = mkOf L := ⟨_, rfl⟩
  have hMl : M.length = L.length := by rw [eM, mkOf_length]
  have hMh : ∀ x ∈ M, x.2.length = 32 := by rw [eM]; exact mkOf_heads L
  have hMt : ∀ x ∈ M, x.1.length ≤ 4000 := by rw [eM]; exact mkOf_texts L 4000 hs
  rw [← eM] at HR ⊢
  obtain ⟨N, eN⟩ : ∃ N, N = L.length := ⟨_, rfl⟩
  rw [← eN] at hMl hLn ⊢
  obtain ⟨l, el⟩ : ∃ l, l = encOf M := ⟨_, rfl⟩
  have hll : l.length ≤ 17000000 := by
    have h1 := encL_bound M hMh hMt
    rw [el, encOf, List.length_append, be4n_length]
    omega
  have h4 : four (l.drop 0) = N := by
    rw [List.drop_zero, el, encOf, hMl]
    exact four_be4 _ (by omega) _
  have hl4 : 0 + 4 ≤ l.length := by rw [el, encOf, List.length_append, be4n_length]; omega
  have hpz : posOf M 0 = 0 + 4 := posOf_zero M
  have hpa : posOf M N = l.length := by rw [← hMl, posOf_all, el]
  have hfit : ∀ i, (h : i < M.length) → ∃ t h2 r, M[i] = (t, h2) ∧ t.length ≤ 4000 ∧ h2.length = 32 ∧ l.drop (posOf M i) = be4n t.length ++ (t ++ (h2 ++ r)) ∧ posOf M (i + 1) = posOf M i + 4 + t.length + 32 := by
    intro i h
    obtain ⟨r, er⟩ := enc_at M i h
    exact ⟨(M[i]).1, (M[i]).2, r, rfl, hMt _ (List.getElem_mem h), hMh _ (List.getElem_mem h), by rw [el]; exact er, posOf_succ M i h (hMh _ (List.getElem_mem h))⟩
  have hmono : ∀ i, i ≤ N → posOf M i ≤ l.length := by
    intro i hi
    rw [el]
    unfold posOf encOf
    rw [List.length_append, be4n_length, encL_split M i, List.length_append]
    omega
  rw [← el] at HR ⊢
  have HLL := Lib.hid hll
  have H4 := Lib.hid h4
  have HL4 := Lib.hid hl4
  have HPZ := Lib.hid hpz
  have HPA := Lib.hid hpa
  have HFIT := Lib.hid hfit
  have HMONO := Lib.hid hmono
  have HML := Lib.hid hMl
  have HMH := Lib.hid hMh
  have HLN := Lib.hid hLn
  have EM := Lib.hid eM
  have EN := Lib.hid eN
  clear hr hnil hs eM hMl hMh hMt eN hLn el hll h4 hl4 hpz hpa hfit hmono
  obtain ⟨z33, hz33⟩ : ∃ z33, z33 = (lk ([], hd0)).toArray := ⟨_, rfl⟩
  have HZ33 := Lib.hid hz33
  clear hz33
  go_enter Try.func51, Try.ntmps51
  go_wp2_with fail
  refine wp_scope_loop 0 (fun a' w' => ∃ (i lf q Bq : Nat) (vq vo vp : Value) (ps : List Value) (t : List Value),
    a' = { tmps := (.slice A l.length c :: undef :: .slice none 0 0 :: .int .i64 0 :: .int .i64 0 :: .pointer (some ⟨q, 0, none⟩) :: vo :: vp :: .int .i64 (lf : Int) :: t).toArray, defers := [] } ∧ t.length = 67 ∧
    i + lf = N ∧ ReaderAt w' w.heap.size q vq l (posOf M i) ∧ w'.ownsRow Bq 30 33 vo i (lv (M.take i)) ∧ w'.ownsRow Bq 3 1 vp i ps ∧ q < Bq ∧ (∀ k, vq.ownBlock = some k → k < Bq) ∧ w.heap.size ≤ Bq ∧ (∀ k, vo.ownBlock = some k → vp.ownBlock ≠ some k) ∧ Bq ≤ w'.heap.size ∧ Below w.heap.size w w')
    (fun a' _ => (intOf (a'.tmps.getD 8 undef)).toNat) rfl ?pass ?first
  case first =>
    intro hrest
    go_wp2_with fail
    refine (newReader_any A l.length c l _ rfl (by have := HLL.out; omega) HR.out HNIL.out).mono ?_
    rintro e w1 ⟨q, vq, rfl, hw, hb⟩
    have R1 := Lib.hid hw
    have B1 := Lib.hid hb
    clear hw hb
    go_wp2_with fail
    refine (readerCount2_any _ _ _ _ _ _ R1.out HL4.out (by have := HLL.out; omega) 4096 N H4.out (by have := HLN.out; omega) (by omega)).mono ?_
    rintro e w2 ⟨rfl, hw, hu⟩
    have hlq := R1.out.lt
    have hlv : ∀ k, vq.ownBlock = some k → k < w1.heap.size := fun k hk => (World.ownsRow.lt R1.out.own k hk).2
    have B2 := Lib.hid (below_upd B1.out B1.out.size hu (fun k hk => by rw [hk]; exact R1.out.base))
    have hsz := hu.size
    have R2 := Lib.hid hw
    have hsB := B1.out.size
    clear hw hu
    go_wp2_with fail
    go_step3
    rename_i hK
    refine hK _ _ (hrest _ _ ?_)
    exact ⟨0, N, q, w1.heap.size, vq, _, _, [], _, rfl, rfl, by omega, by rw [HPZ.out]; exact R2.out, World.ownsRow_nil _ _ _ _, World.ownsRow_nil _ _ _ _, hlq, hlv, hsB, fun k hk => by simp [Value.ownBlock] at hk, hsz, B2.out⟩
  case pass =>
    rintro a' w' ⟨i, lf, q, Bq, vq, vo, vp, ps, tl, rfl, htl0, hil, hrd, ho, hp, hqB, hvB, hwB, hdis, hBs, hb⟩
    obtain ⟨u, rfl⟩ := tail67 tl htl0
    clear htl0
    have HIL := Lib.hid hil
    have HRD := Lib.hid hrd
    have HO := Lib.hid ho
    have HP := Lib.hid hp
    have HQB := Lib.hid hqB
    have HVB := Lib.hid hvB
    have HWB := Lib.hid hwB
    have HDIS := Lib.hid hdis
    have HBS := Lib.hid hBs
    have HB := Lib.hid hb
    clear hil hrd ho hp hqB hvB hwB hdis hBs hb
    by_cases h0 : lf = 0
    · subst h0
      have hi : i = N := by have := HIL.out; omega
      subst hi
      rw [List.take_of_length_le (by rw [HML.out]; exact Nat.le_refl _)] at HO
      rw [HPA.out] at HRD
      go_wp2_with fail
      refine (readerEnd2_any _ _ _ _ _ _ HRD.out rfl (by have := HLL.out; omega)).mono ?_
      rintro e w2 ⟨rfl, hw, hu⟩
      have ho2 := own_upd HO.out hu (fun k hk e => by have := (World.ownsRow.lt HO.out k hk).1; have := HQB.out; omega)
      have hb2 := below_upd HB.out HB.out.size hu (fun k hk => by rw [hk]; exact HRD.out.base)
      obtain ⟨Ao, co, rfl, _⟩ := own_slice ho2
      have HO2 := Lib.hid ho2
      have HB2 := Lib.hid hb2
      clear ho2 hb2 hw hu
      go_wp2_with fail
      refine (check_made Ao i co L w2 EN.out.symm (by have := HLN.out; omega) HSM.out (by rw [← EM.out]; exact own_RC HO2.out)).mono ?_
      rintro e w3 ⟨rfl, hb3⟩
      have HO3 := Lib.hid (own_below HO2.out hb3)
      have HB3 := Lib.hid (below_below HB2.out HB2.out.size hb3)
      clear hb3
      go_wp2_with fail
      simp only [Exit.jump]
      go_ret3
      exact ⟨_, rfl, own_lower HO3.out HWB.out, HB3.out⟩
    · obtain ⟨m, rfl⟩ : ∃ m, lf = m + 1 := ⟨lf - 1, by omega⟩
      have hiM : i < M.length := by rw [HML.out]; have := HIL.out; omega
      obtain ⟨t, h, r, eMi, htl, hhl, ed, epos⟩ := HFIT.out i hiM
      have hpl := HMONO.out (i + 1) (by have := HIL.out; omega)
      have HTK := Lib.hid (show M.take (i + 1) = M.take i ++ [(t, h)] by rw [List.take_succ_eq_append_getElem hiM, eMi])
      have HF := Lib.hid (enc_four l _ t h r htl ed)
      have HTX := Lib.hid (enc_text l _ t h r ed)
      have HBY := Lib.hid (show ∀ j : Nat, j < 32 → bt l (posOf M i + 4 + t.length + j) = bt h j from fun j hj => enc_byte l _ t h r ed j (by omega))
      rw [epos] at hpl
      have EP := Lib.hid epos
      obtain ⟨a, ea⟩ : ∃ a, a = posOf M i := ⟨_, rfl⟩
      rw [← ea] at HRD HF HTX HBY hpl EP
      have HPL := Lib.hid hpl
      have HTL := Lib.hid htl
      have HHL := Lib.hid hhl
      have hll := HLL.out
      have hla : a ≤ l.length := by omega
      have hlz : (0 : Int) < ((l.length - a : Nat) : Int) := by omega
      have hmN : (m : Int) ≤ 4000 := by have := HIL.out; have := HLN.out; omega
      have hlc : (l.length : Int) ≤ 17000000 := by omega
      clear h0 hiM eMi htl hhl ed epos ea hpl
      have HLA := Lib.hid hla
      have HLLL := Lib.hid hll
      clear hla hll
      go_wp2_with fail
      refine (readerLeft2_any _ _ _ _ _ _ HRD.out HLA.out (by have := HLLL.out; omega)).mono ?_
      rintro e w2 ⟨rfl, hw, hu⟩
      have R2 := Lib.hid hw
      have U2 := Lib.hid hu
      clear hw hu
      obtain ⟨la, ela⟩ : ∃ la, la = l.length - a := ⟨_, rfl⟩
      rw [← ela] at hlz ⊢
      have ELA := Lib.hid ela
      have hla2 : (la : Int) ≤ 17000000 := by omega
      clear ela
      go_wp2_with fail
      refine (readerLeft2_any _ _ _ _ _ _ R2.out HLA.out (by have := HLLL.out; omega)).mono ?_
      rw [← ELA.out]
      rintro e w3 ⟨rfl, hw, hu⟩
      have R3 := Lib.hid hw
      have hu3 := U2.out.trans hu (fun _ _ h => h)
      have HP3 := Lib.hid (own_upd HP.out hu3 (fun k hk e => by have := (World.ownsRow.lt HP.out k hk).1; have := HQB.out; omega))
      have HO3 := Lib.hid (own_upd HO.out hu3 (fun k hk e => by have := (World.ownsRow.lt HO.out k hk).1; have := HQB.out; omega))
      have HB3 := Lib.hid (below_upd HB.out HB.out.size hu3 (fun k hk => by rw [hk]; exact HRD.out.base))
      have HS3 := Lib.hid (show Bq ≤ w3.heap.size from Nat.le_trans HBS.out hu3.size)
      have HVL := Lib.hid (show ∀ k, vo.ownBlock = some k → k < w3.heap.size from fun k hk => (World.ownsRow.lt HO3.out k hk).2)
      clear hw hu hu3 U2
      go_wp2_with (at_builtin; refine append_any rfl _ _ 47 rfl Bq 3 (.int .i64 0) 1 8 Try.underlying47 infoI rfl (by omega) (by omega) vp i ps rfl (HP3.out.alloc _) _ 1 _ [.int .i64 ((l.length : Int) - (la : Int))] rfl rfl (RC_newL _ [.int .i64 ((l.length : Int) - (la : Int))] 3) (by intro u hu; simp at hu; rw [hu]; rfl) ?c1 ?c2 ?_)
      case c1 => have := HIL.out; have := HLN.out; omega
      case c2 => have := HS3.out; simp; omega
      intro v4 w4 ho4 hg4 hat4
      have hu4 : Upd (fun k => vp.ownBlock = some k) w3 w4 := ((Upd.refl _ w3).alloc _).grown hg4 (fun k hk _ => hk)
      have HP4 := Lib.hid ho4
      have HO4 := Lib.hid (own_upd HO3.out hu4 (fun k hk e => HDIS.out k hk e))
      have R4 := Lib.hid (R3.out.upd hu4 (fun e => by have := (World.ownsRow.lt HP3.out _ e).1; have := HQB.out; omega) (fun k hk e => by have := (World.ownsRow.lt HP3.out _ e).1; have := HVB.out k hk; omega))
      have HB4 := Lib.hid (below_upd HB3.out HB3.out.size hu4 (fun k hk => by have := (World.ownsRow.lt HP3.out k hk).1; have := HWB.out; omega))
      have HS4 := Lib.hid (show w3.heap.size ≤ w4.heap.size from hu4.size)
      have HD4 := Lib.hid (show ∀ k, vo.ownBlock = some k → v4.ownBlock ≠ some k from fun k hk e => by
        rcases hat4 with h | h
        · exact HDIS.out k hk (h ▸ e)
        · rw [h] at e
          have h1 := HVL.out k hk
          simp at e
          omega)
      clear ho4 hg4 hat4 hu4 HP3 HO3 HB3 R3 R2
      go_wp2_with fail
      refine (readerText2_any _ _ _ _ _ _ R4.out (by have := HLLL.out; omega) 4000 t.length HF.out HTL.out (by omega) (by have := HPL.out; omega)).mono ?_
      rw [HTX.out]
      rintro e w5 ⟨rfl, hw, hu⟩
      have R5 := Lib.hid hw
      have HP5 := Lib.hid (own_upd HP4.out hu (fun k hk e => by have := (World.ownsRow.lt HP4.out k hk).1; have := HQB.out; omega))
      have HO5 := Lib.hid (own_upd HO4.out hu (fun k hk e => by have := (World.ownsRow.lt HO4.out k hk).1; have := HQB.out; omega))
      have HB5 := Lib.hid (below_upd HB4.out HB4.out.size hu (fun k hk => by rw [hk]; exact R4.out.base))
      have HS5 := Lib.hid (show Bq ≤ w5.heap.size from Nat.le_trans (Nat.le_trans HS3.out HS4.out) hu.size)
      clear hw hu HP4 HO4 HB4 R4 HS3 HS4 HVL
      go_upto_region 9 with (refine wpList_store_row rfl 30 (.tmp 9) (.tmp 37) rfl w5.heap.size (lk (t, hd0)).toArray rfl (by rfl) 30 _ (heap_alloc_new w5 _) (by kernel_rfl) (by kernel_rfl) (all_oneCell_toArray (lk_one _)) ?_)
      obtain ⟨z, hz⟩ : ∃ z, z = w5.heap.size := ⟨_, rfl⟩
      rw [← hz]
      have hBz : Bq ≤ z := by rw [hz]; exact HS5.out
      generalize hw6 : World.setRow (World.alloc w5 _) z _ = w6
      have hz6 : w6.heap[z]? = some (.cells (lk (t, hpB h 0)).toArray 30) := by rw [← hw6, hz, hpB_zero]; exact setRow_heap _ _ _ _ _ _ (heap_alloc_new w5 _)
      have hb56 : Below w5.heap.size w5 w6 := by rw [← hw6, hz]; exact below_setRow ((Below.refl _ _).alloc (Nat.le_refl _) _) _ _ (Nat.le_refl _)
      have R6 := Lib.hid (R5.out.below hb56)
      have HP6 := Lib.hid (own_below HP5.out hb56)
      have HO6 := Lib.hid (own_below HO5.out hb56)
      have HB6 := Lib.hid (below_below HB5.out HB5.out.size hb56)
      have HZ6 := Lib.hid hz6
      have HBZ := Lib.hid hBz
      have HVZ := Lib.hid (show ∀ k, vo.ownBlock = some k → k ≠ z from fun k hk e => by have := (World.ownsRow.lt HO5.out k hk).2; omega)
      have HPZ2 := Lib.hid (show ∀ k, v4.ownBlock = some k → k ≠ z from fun k hk e => by have := (World.ownsRow.lt HP5.out k hk).2; omega)
      clear hw6 hz6 hb56 hBz hz R5 HP5 HO5 HB5 HS5
      go_wp2_with fail
      go_loopg [38] 32 (fun k s38 wr => ∃ j : Nat, j ≤ 32 ∧ k = 32 - j ∧ s38 = .int .i64 (j : Int) ∧ ReaderAt wr w.heap.size q vq l (a + 4 + t.length + j) ∧ wr.heap[z]? = some (.cells (lk (t, hpB h j)).toArray 30) ∧ Upd (fun k => k = q ∨ k = z) w6 wr)
      case atStart => exact ⟨0, Nat.zero_le _, by omega, rfl, R6.out, HZ6.out, Upd.refl _ _⟩
      case round =>
        obtain ⟨j, hj, hk, rfl, hrd, hzc, hu⟩ := hrel
        have HK := Lib.hid hk
        have HRJ := Lib.hid hrd
        have HZJ := Lib.hid hzc
        have HUJ := Lib.hid hu
        clear hk hrd hzc hu R6 HZ6
        by_cases hlt : j < 32
        · have HBJ := Lib.hid (HBY.out j hlt)
          have HNX := Lib.hid (hpB_succ h j HHL.out hlt)
          have hol : (lk (t, hpB h j)).length = 33 := lk_length _ (hpB_length h j HHL.out hj)
          obtain ⟨ov, hov⟩ : ∃ ov, (lk (t, hpB h j))[1 + j]? = some ov := ⟨_, List.getElem?_eq_getElem (by rw [hol]; omega)⟩
          have HOV := Lib.hid hov
          generalize bt h j = y at *
          have hj0 : (0 : Int) ≤ (j : Int) := by omega
          have hj1 : (j : Int) < 32 := by omega
          have HLT := Lib.hid hlt
          clear hol hov hlt hj
          go_wp2_with fail
          refine (readerByte2_any _ _ _ _ _ _ HRJ.out (by have := HPL.out; have := HLT.out; omega) (by have := HLLL.out; omega)).mono ?_
          rw [HBJ.out]
          rintro e w8 ⟨rfl, hw, hu⟩
          have hqz : q ≠ z := by have := HQB.out; have := HBZ.out; omega
          have hz8 : w8.heap[z]? = some (.cells (lk (t, hpB h j)).toArray 30) := (hu.block z (Array.getElem?_eq_some_iff.1 HZJ.out).1 (fun e => hqz e.symm)).trans HZJ.out
          have cz : w8.cell? ⟨z, 1 + j, none⟩ = some ov := by
            rw [cell_of_row w8 z (1 + j) _ _ _ hz8]
            simpa using HOV.out
          have fz := lk_frozen hz8 (1 + j)
          have hwy : IntKind.u8.wrap (un8 y) = un8 y := by have := un8_range y; rw [IntKind.wrap_u8]; omega
          have R8 := Lib.hid hw
          have HZ8 := Lib.hid hz8
          have HU8 := Lib.hid (show Upd (fun k => k = q ∨ k = z) w6 w8 from HUJ.out.trans hu (fun _ _ h => .inl h))
          have HQZ := Lib.hid hqz
          clear hw hu hqz hz8
          go_wp2_with fail
          go_roundg (32 - (j + 1))
          case measure => have := HK.out; have := HLT.out; omega
          case rel =>
            have hst : Upd (fun k => k = z) w8 (w8.setCell ⟨z, 1 + j, none⟩ (.int .u8 (un8 y))) := (Upd.refl (fun k => k = z) w8).setCell (fun _ => rfl) _
            refine ⟨j + 1, HLT.out, rfl, by go_num, ?_, ?_, HU8.out.trans hst (fun _ _ h => .inr h)⟩
            · rw [show a + 4 + t.length + (j + 1) = a + 4 + t.length + j + 1 by omega]
              exact R8.out.upd hst HQZ.out (fun k hk e => by have := HVB.out k hk; have := HBZ.out; omega)
            · rw [setCell_at HZ8.out, List.setIfInBounds_toArray, lk_set, HNX.out]
        · obtain rfl : j = 32 := by omega
          rw [hpB_done h HHL.out] at HZJ
          have hrd := HRJ.out
          rw [← EP.out] at hrd
          have R9 := Lib.hid hrd
          have hlkl := lk_length (t, h) HHL.out
          have HPw := Lib.hid (own_upd HP6.out HUJ.out (fun k hk e => e.elim (fun e => by have := (World.ownsRow.lt HP6.out k hk).1; have := HQB.out; omega) (HPZ2.out k hk)))
          have HOw := Lib.hid (own_upd HO6.out HUJ.out (fun k hk e => e.elim (fun e => by have := (World.ownsRow.lt HO6.out k hk).1; have := HQB.out; omega) (HVZ.out k hk)))
          have HBw := Lib.hid (below_upd HB6.out HB6.out.size HUJ.out (fun k hk => by
            rcases hk with e | e
            · rw [e]; exact HRD.out.base
            · rw [e]; exact Nat.le_trans HWB.out HBZ.out))
          obtain ⟨lc, elc⟩ : ∃ lc, lc = (lk (t, h)).toArray := ⟨_, rfl⟩
          have hil : (Try.prog.info? 30).map (·.size) = some lc.size := by rw [elc, List.size_toArray, hlkl]; exact info33
          rw [← elc] at HZJ
          have HF1 := Lib.hid (show Try.prog.builtSlice 30 1 [(0, .agg lc)] = some lc by rw [elc]; exact built_one t h HHL.out)
          have HIL2 := Lib.hid hil
          have ELC := Lib.hid elc
          have HLK := Lib.hid hlkl
          have HSw := Lib.hid (show Bq ≤ wr.heap.size by have := (Array.getElem?_eq_some_iff.1 HZJ.out).1; have := HBZ.out; omega)
          have HPSw := Lib.hid (show ∀ k, v4.ownBlock = some k → k < wr.heap.size from fun k hk => (World.ownsRow.lt HPw.out k hk).2)
          clear hlt hj HK HRJ HUJ HP6 HO6 HB6 hrd hlkl elc hil
          go_upto_region 14 with fail
          refine wp_region_lit ?_
          refine Great.wpList_readTo rfl _ rfl vo rfl ?_
          refine wpList_load_row rfl 30 (.tmp 9) rfl z rfl 30 lc (0, 0) _ HZJ.out Try.underlying30 rfl HIL2.out ?_
          refine Great.wpList_buildSliceTo rfl 26 30 1 _ rfl wr.heap.size rfl (some 50) rfl Try.underlying26 lc (by simp only [List.map_toArray, List.map_cons, List.map_nil]; exact HF1.out) ?_
          refine append_any rfl (.tmp 48) (.tmp 50) 26 rfl Bq 30 (.agg (lk ([], hd0)).toArray) 33 48 Try.underlying26 infoLk (by kernel_rfl) (by omega) (by omega) vo i (lv (M.take i)) rfl (HOw.out.alloc _) (some ⟨wr.heap.size, 0, none⟩) 1 1 (lk (t, h)) rfl ?c1 ?c2 (lk_one _) ?c3 ?c4 ?_
          case c1 => rw [HLK.out]
          case c2 => rw [ELC.out]; exact RC_newL wr (lk (t, h)) _
          case c3 => have := HIL.out; have := HLN.out; omega
          case c4 => have := HSw.out; simp; omega
          intro v9 w9 ho9 hg9 hat9
          have hu9 : Upd (fun k => vo.ownBlock = some k) wr w9 := ((Upd.refl _ wr).alloc _).grown hg9 (fun k hk _ => hk)
          have HO9 := Lib.hid (show w9.ownsRow Bq 30 33 v9 (i + 1) (lv (M.take (i + 1))) by rw [HTK.out, lv_snoc]; exact ho9)
          have HP9 := Lib.hid (own_upd HPw.out hu9 (fun k hk e => HD4.out k e hk))
          have R10 := Lib.hid (R9.out.upd hu9 (fun e => by have := (World.ownsRow.lt HOw.out _ e).1; have := HQB.out; omega) (fun k hk e => by have := (World.ownsRow.lt HOw.out _ e).1; have := HVB.out k hk; omega))
          have HB9 := Lib.hid (below_upd HBw.out HBw.out.size hu9 (fun k hk => by have := (World.ownsRow.lt HOw.out k hk).1; have := HWB.out; omega))
          have HS9 := Lib.hid (show Bq ≤ w9.heap.size from Nat.le_trans HSw.out hu9.size)
          have HD9 := Lib.hid (show ∀ k, v9.ownBlock = some k → v4.ownBlock ≠ some k from fun k hk e => by
            rcases hat9 with h | h
            · exact HD4.out k (h ▸ hk) e
            · rw [h] at hk
              have h1 := HPSw.out k e
              simp at hk
              omega)
          clear ho9 hg9 hat9 hu9
          go_wp2_with fail
          go_step3
          refine ⟨rfl, ⟨i + 1, m, q, Bq, vq, v9, v4, _, _, rfl, rfl, by have := HIL.out; omega, R10.out, HO9.out, HP9.out, HQB.out, HVB.out, HWB.out, HD9.out, HS9.out, HB9.out⟩, by simp [intOf]⟩

end Go.Proofs.Ythlbmjjodjepjaa
