/-
  The walk of the law WalBack.
-/
import Derived.Test.YthlbmjjodjepjaaKnown6
set_option linter.unusedVariables false
set_option linter.unusedSimpArgs false
namespace Go.Proofs.Ythlbmjjodjepjaa
open Go.RowKit

/-- Texts cut to a hundred bytes, and their frames. -/
def fewsOf (l : List (List UInt8)) : List (List UInt8) := l.map fun x => x.take 100
def plainOf (l : List (List UInt8)) : List (Bool × List UInt8) := (fewsOf l).map fun x => (false, x)
theorem fewsOf_snoc (l : List (List UInt8)) (x : List UInt8) : fewsOf (l ++ [x]) = fewsOf l ++ [x.take 100] := by simp [fewsOf]
theorem plainOf_snoc (l : List (List UInt8)) (x : List UInt8) : plainOf (l ++ [x]) = plainOf l ++ [(false, x.take 100)] := by simp [plainOf, fewsOf]
theorem fewsOf_length (l : List (List UInt8)) : (fewsOf l).length = l.length := by simp [fewsOf]
theorem plain_small (l : List (List UInt8)) : ∀ x ∈ plainOf l, x.2.length ≤ 4000 := by
  intro x hx
  simp only [plainOf, fewsOf, List.map_map, List.mem_map] at hx
  obtain ⟨y, _, rfl⟩ := hx
  simp
  omega
theorem frames_small (l : List (List UInt8)) : (framesOf (plainOf l)).length ≤ 109 * l.length := by
  induction l with
  | nil => simp [plainOf, fewsOf, framesOf]
  | cons x l ih =>
    rw [show plainOf (x :: l) = (false, x.take 100) :: plainOf l from rfl, framesOf_cons, List.length_append, frameOf_length, List.length_cons]
    simp
    omega
theorem scan_plain (l : List (List UInt8)) (t : List UInt8) (ht : oneOf t = none) : scanOf (framesOf (plainOf l) ++ t) = (fewsOf l, (framesOf (plainOf l)).length) := by
  rw [scanOf_frames _ t (plain_small l) ht]
  simp [plainOf, fold_plain]

set_option maxHeartbeats 8000000 in
theorem walBack_any (A : Option Addr) (n c : Nat) (L : List (List UInt8)) (w : World) (hl : L.length = n) (hn : n ≤ 9223372036854775807) (hr : RS w A L) :
    Calls Try.prog 6 #[.slice A n c] w fun e w' => e = .returned (.bool true) ∧ Below w.heap.size w w' := by
  subst hl
  have HL := Lib.hid hr
  clear hr
  go_enter Try.func6, Try.ntmps6
  go_wp2_with fail
  go_loopg [3, 4, 5] 20 (fun k s3 s4 s5 wr => ∃ i : Nat, i ≤ L.length ∧ i ≤ 20 ∧ k = 20 - i ∧ s5 = .int .i64 (i : Int) ∧ wr.ownsRow w.heap.size 5 1 s3 (framesOf (plainOf (L.take i))).length (bv (framesOf (plainOf (L.take i)))) ∧
    wr.ownsRow w.heap.size 9 1 s4 (fewsOf (L.take i)).length (sv (fewsOf (L.take i))) ∧ (∀ k, s3.ownBlock = some k → s4.ownBlock ≠ some k) ∧ Below w.heap.size w wr)
  case atStart => exact ⟨0, Nat.zero_le _, by omega, by omega, rfl, World.ownsRow_nil _ _ _ _, World.ownsRow_nil _ _ _ _, fun k hk => by simp [Value.ownBlock] at hk, Below.refl _ _⟩
  case round =>
    obtain ⟨i, hi, hi20, hk, rfl, ho3, ho4, hne, hb⟩ := hrel
    have HK := Lib.hid hk
    have O3 := Lib.hid ho3
    have O4 := Lib.hid ho4
    have NE := Lib.hid hne
    have HB := Lib.hid hb
    have hsm := frames_small (L.take i)
    have hl1 : (L.take i).length = i := by rw [List.length_take]; omega
    rw [hl1] at hsm
    have HL1 := Lib.hid hl1
    clear hk ho3 ho4 hne hb hl1
    by_cases hlt : i < L.length ∧ i < 20
    · obtain ⟨hlt, hlt20⟩ := hlt
      obtain ⟨bl, ol, rfl, e1⟩ := HL.out.parts (by rw [sv_length]; omega)
      have k1 := cell_below HB.out (e1 i _ (sv_get' L i hlt))
      have E1 := Lib.hid (e1 i _ (sv_get' L i hlt))
      have HT := Lib.hid (List.take_succ_eq_append_getElem hlt)
      have HI := Lib.hid (strB_toList L[i])
      generalize L[i] = x at *
      generalize L.take i = l0 at *
      clear e1
      have hfl : (fewsOf l0).length ≤ 20 := by rw [fewsOf_length, HL1.out]; omega
      generalize strB x = sx at *
      go_wp2_with fail
      refine (few_any sx _).mono ?_
      rw [HI.out]
      rintro e w1 ⟨rfl, rfl⟩
      go_wp2_with (at_builtin; refine append_any rfl _ _ 22 rfl w.heap.size 9 (.string ⟨#[]⟩) 1 16 Try.underlying22 infoS rfl (by omega) (by omega) u4 (fewsOf l0).length (sv (fewsOf l0)) rfl (O4.out.alloc _) _ 1 _ (sv [x.take 100]) rfl rfl (RC_newL wr (sv [x.take 100]) 9) (sv_one _) ?c1 ?c2 ?_)
      case c1 => omega
      case c2 => have := HB.out.size; simp; omega
      intro v4 w2 ho hg hat
      have hU2 : Upd (fun k => u4.ownBlock = some k) wr w2 := ((Upd.refl _ wr).alloc _).grown hg (fun k hk _ => hk)
      have O3' := Lib.hid (own_upd O3.out hU2 (fun k hk h => NE.out k hk h))
      have NE2 := Lib.hid (show ∀ k, u3.ownBlock = some k → v4.ownBlock ≠ some k by
        intro k hk e
        rcases hat with h | h
        · exact NE.out k hk (h ▸ e)
        · rw [h] at e; simp at e; have := (World.ownsRow.lt O3.out k hk).2; omega)
      have HB2 := Lib.hid (below_upd HB.out HB.out.size hU2 (fun k hk => (World.ownsRow.lt O4.out k hk).1))
      have O4' := Lib.hid (show w2.ownsRow w.heap.size 9 1 v4 (fewsOf (l0 ++ [x])).length (sv (fewsOf (l0 ++ [x]))) by
        rw [fewsOf_snoc, List.length_append, sv_append]
        exact ho)
      have k2 := cell_below HB2.out E1.out
      clear ho hg hat hU2 k1
      go_wp2_with fail
      refine (few_any sx _).mono ?_
      rw [HI.out]
      rintro e w3 ⟨rfl, rfl⟩
      go_wp2_with fail
      refine (frame_any false (strB (x.take 100)) _ (by rw [strB_size, List.length_take]; omega)).mono ?_
      rw [strB_toList]
      rintro e w3 ⟨v5, rfl, ho, hb⟩
      obtain ⟨A5, c5, rfl, _⟩ := own_slice ho
      have O3a := Lib.hid (own_below O3'.out hb)
      have O4a := Lib.hid (own_below O4'.out hb)
      have O5 := Lib.hid ho
      have HB3 := Lib.hid (below_below HB2.out HB2.out.size hb)
      have hfr : (frameOf false (x.take 100)).length ≤ 109 := by rw [frameOf_length, List.length_take]; omega
      clear ho hb
      go_wp2_with (at_builtin; refine append_bytes rfl _ _ 37 rfl w.heap.size 5 Try.underlying37 info8 u3 (framesOf (plainOf l0)) rfl O3a.out _ _ _ (frameOf false (x.take 100)) rfl rfl (own_RC O5.out).bytes ?c3 ?c4 ?_)
      case c3 => omega
      case c4 => exact HB3.out.size
      intro v3 w4 ho hg hat
      have hU4 : Upd (fun k => u3.ownBlock = some k) w3 w4 := (Upd.refl _ w3).grown hg (fun k hk _ => hk)
      have O4b := Lib.hid (own_upd O4a.out hU4 (fun k hk h => NE2.out k h hk))
      have HB4 := Lib.hid (below_upd HB3.out HB3.out.size hU4 (fun k hk => (World.ownsRow.lt O3a.out k hk).1))
      have NE3 := Lib.hid (show ∀ k, v3.ownBlock = some k → v4.ownBlock ≠ some k by
        intro k hk e
        rcases hat with h | h
        · exact NE2.out k (h ▸ hk) e
        · rw [h] at hk; cases hk; have := (World.ownsRow.lt O4a.out _ e).2; omega)
      have O3b := Lib.hid (show w4.ownsRow w.heap.size 5 1 v3 (framesOf (plainOf (l0 ++ [x]))).length (bv (framesOf (plainOf (l0 ++ [x])))) by
        rw [plainOf_snoc, framesOf_snoc, List.length_append]
        exact ho)
      clear ho hg hat hU4
      go_wp2_with fail
      go_roundg (20 - (i + 1))
      case measure => have := HK.out; omega
      case rel => exact ⟨i + 1, by omega, by omega, rfl, by go_num, by rw [HT.out]; exact O3b.out, by rw [HT.out]; exact O4b.out, NE3.out, HB4.out⟩
    · have hd2 : ¬ (i < L.length) ∨ ¬ (i < 20) := by omega
      have HD2 := Lib.hid hd2
      clear hd2
      generalize L.take i = l0 at *
      obtain ⟨A3, c3, rfl, _⟩ := own_slice O3.out
      obtain ⟨A4, c4, rfl, _⟩ := own_slice O4.out
      have HFL := Lib.hid (show (fewsOf l0).length ≤ 20 by rw [fewsOf_length, HL1.out]; omega)
      have HSM := Lib.hid hsm
      have HI20 := Lib.hid hi20
      clear hlt hi hsm hi20
      by_cases hA : i < L.length
      · have h20 : decide ((i : Int) < 20) = false := by have := HD2.out; simp; omega
        go_wp2_with (at_builtin; refine append_bytes rfl _ _ 37 rfl w.heap.size 5 Try.underlying37 info8 (.slice A3 (framesOf (plainOf l0)).length c3) (framesOf (plainOf l0)) rfl (O3.out.alloc _) _ 3 _ [0, 0, 0] rfl rfl (RB_new wr [0, 0, 0] 5) (by have := HSM.out; have := HI20.out; omega) (by have := HB.out.size; simp; omega) ?_)
        intro v5 w2 ho hg hat
        obtain ⟨A5, c5, rfl, hc5⟩ := own_slice ho
        have hU2 : Upd (fun k => (Value.slice A3 (framesOf (plainOf l0)).length c3).ownBlock = some k) wr w2 := ((Upd.refl _ wr).alloc _).grown hg (fun k hk _ => hk)
        have O4' := Lib.hid (own_upd O4.out hU2 (fun k hk h => NE.out k h hk))
        have HB2 := Lib.hid (below_upd HB.out HB.out.size hU2 (fun k hk => (World.ownsRow.lt O3.out k hk).1))
        have O5 := Lib.hid ho
        clear ho hg hat hU2
        go_wp2_with fail
        refine (scan_any A5 _ c5 (framesOf (plainOf l0) ++ [0, 0, 0]) w2 (by simp) (by have := HSM.out; have := HI20.out; omega) hc5 (own_RC O5.out).bytes).mono ?_
        rw [scan_plain l0 [0, 0, 0] (by rfl)]
        rintro e w3 ⟨v6, rfl, ho, hb⟩
        obtain ⟨A6, c6, rfl, _⟩ := own_slice ho
        have O6 := Lib.hid ho
        have O4a := Lib.hid (own_below O4'.out hb)
        have HB3 := Lib.hid (below_below HB2.out HB2.out.size hb)
        clear ho hb
        go_wp2_with fail
        refine (texts_any _ _ _ _ _ _ (fewsOf l0) (fewsOf l0) _ rfl rfl (by have := HFL.out; omega) (by have := HFL.out; omega) (own_RC O6.out) (own_RC O4a.out)).mono ?_
        rw [decide_eq_true (show fewsOf l0 = fewsOf l0 from rfl)]
        rintro e w4 ⟨rfl, hb⟩
        have HB4 := Lib.hid (below_below HB3.out HB3.out.size hb)
        clear hb
        go_wp2_with fail
        refine (known6_any _).mono ?_
        rintro e w5 ⟨rfl, hb⟩
        have HB5 := Lib.hid (below_below HB4.out HB4.out.size hb)
        clear hb
        go_wp2_with fail
        go_ret
        exact ⟨rfl, HB5.out⟩
      · have hA' : decide ((i : Int) < (L.length : Int)) = false := by simp; omega
        go_wp2_with (at_builtin; refine append_bytes rfl _ _ 37 rfl w.heap.size 5 Try.underlying37 info8 (.slice A3 (framesOf (plainOf l0)).length c3) (framesOf (plainOf l0)) rfl (O3.out.alloc _) _ 3 _ [0, 0, 0] rfl rfl (RB_new wr [0, 0, 0] 5) (by have := HSM.out; have := HI20.out; omega) (by have := HB.out.size; simp; omega) ?_)
        intro v5 w2 ho hg hat
        obtain ⟨A5, c5, rfl, hc5⟩ := own_slice ho
        have hU2 : Upd (fun k => (Value.slice A3 (framesOf (plainOf l0)).length c3).ownBlock = some k) wr w2 := ((Upd.refl _ wr).alloc _).grown hg (fun k hk _ => hk)
        have O4' := Lib.hid (own_upd O4.out hU2 (fun k hk h => NE.out k h hk))
        have HB2 := Lib.hid (below_upd HB.out HB.out.size hU2 (fun k hk => (World.ownsRow.lt O3.out k hk).1))
        have O5 := Lib.hid ho
        clear ho hg hat hU2
        go_wp2_with fail
        refine (scan_any A5 _ c5 (framesOf (plainOf l0) ++ [0, 0, 0]) w2 (by simp) (by have := HSM.out; have := HI20.out; omega) hc5 (own_RC O5.out).bytes).mono ?_
        rw [scan_plain l0 [0, 0, 0] (by rfl)]
        rintro e w3 ⟨v6, rfl, ho, hb⟩
        obtain ⟨A6, c6, rfl, _⟩ := own_slice ho
        have O6 := Lib.hid ho
        have O4a := Lib.hid (own_below O4'.out hb)
        have HB3 := Lib.hid (below_below HB2.out HB2.out.size hb)
        clear ho hb
        go_wp2_with fail
        refine (texts_any _ _ _ _ _ _ (fewsOf l0) (fewsOf l0) _ rfl rfl (by have := HFL.out; omega) (by have := HFL.out; omega) (own_RC O6.out) (own_RC O4a.out)).mono ?_
        rw [decide_eq_true (show fewsOf l0 = fewsOf l0 from rfl)]
        rintro e w4 ⟨rfl, hb⟩
        have HB4 := Lib.hid (below_below HB3.out HB3.out.size hb)
        clear hb
        go_wp2_with fail
        refine (known6_any _).mono ?_
        rintro e w5 ⟨rfl, hb⟩
        have HB5 := Lib.hid (below_below HB4.out HB4.out.size hb)
        clear hb
        go_wp2_with fail
        go_ret
        exact ⟨rfl, HB5.out⟩

end Go.Proofs.Ythlbmjjodjepjaa
