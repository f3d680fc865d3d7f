/-
  The texts RefEnc2 of this proof in one (what is used of them): what each proves is said at its head. No conditions beyond those that each theorem says.
-/
import Derived.Test.YtjakhemolecbnaaND3

/-
  The walk of the reference's Encode of a chain.
-/
section
set_option linter.unusedVariables false
set_option linter.unusedSimpArgs false
namespace Go.Proofs.Ytjakhemolecbnaa
open Go.RowKit

set_option maxRecDepth 100000 in
set_option maxHeartbeats 8000000 in
theorem refEncode_any (A : Option Addr) (n c : Nat) (M : List (List UInt8 × List UInt8)) (w : World) (hl : M.length = n) (hn : n ≤ 4000) (hh : ∀ x ∈ M, x.2.length = 32) (ht : ∀ x ∈ M, x.1.length ≤ 4000) (hr : RC w A (lv M)) :
    Calls Try.prog 25 #[.slice A n c] w fun e w' => ∃ v, e = .returned v ∧ w'.ownsRow w.heap.size 5 1 v (encOf M).length (bv (encOf M)) ∧ Below w.heap.size w w' := by
  subst hl
  have HR := Lib.hid hr
  have HH := Lib.hid hh
  have HT := Lib.hid ht
  have HN := Lib.hid hn
  have HEB := Lib.hid (show ∀ i, (be4n M.length ++ encL (M.take i)).length ≤ 20000000 from fun i => by
    have h1 := encL_bound (M.take i) (fun x hx => hh x (List.mem_of_mem_take hx)) (fun x hx => ht x (List.mem_of_mem_take hx))
    have h2 : (M.take i).length ≤ M.length := List.length_take_le' ..
    rw [List.length_append, be4n_length]
    omega)
  clear hr hh ht
  go_enter Try.func25, Try.ntmps25
  go_wp2_with fail
  refine (refFour_any none 0 0 [] M.length w rfl (by simp) (RB.nil _ _) (by omega)).mono ?_
  rintro e w1 ⟨v1, rfl, ho, hb1⟩
  obtain ⟨A1, c1, rfl, _⟩ := own_slice ho
  have HO := Lib.hid (show w1.ownsRow w.heap.size 5 1 (.slice A1 4 c1) 4 (bv (be4n M.length ++ encL (M.take 0))) by simpa [encL] using ho)
  have HB1 := Lib.hid hb1
  clear ho hb1
  go_wp2_with fail
  go_loopg [3, 4] M.length (fun k s3 s4 wr => ∃ (i nb : Nat) (A3 : Option Addr) (c3 : Nat), i ≤ M.length ∧ k = M.length - i ∧ s4 = .int .i64 (i : Int) ∧ s3 = .slice A3 nb c3 ∧ nb = (be4n M.length ++ encL (M.take i)).length ∧ wr.ownsRow w.heap.size 5 1 (.slice A3 nb c3) nb (bv (be4n M.length ++ encL (M.take i))) ∧ Below w.heap.size w wr)
  case atStart => exact ⟨0, 4, A1, c1, Nat.zero_le _, by omega, rfl, rfl, by simp [encL, be4n_length], HO.out, HB1.out⟩
  case round =>
    obtain ⟨i, nb, A3, c3, hi, hk, rfl, rfl, hnb, ho, hb⟩ := hrel
    have HK := Lib.hid hk
    have HO3 := Lib.hid ho
    have HB := Lib.hid hb
    have HNB := Lib.hid hnb
    clear hk ho hb hnb HO HB1
    by_cases hlt : i < M.length
    · obtain ⟨bl, ol, rfl, e1⟩ := HR.out.parts (by rw [lv_length _ HH.out]; omega)
      have hRG := lk_range HH.out e1 i hlt
      have hxs : (M[i]).1.length ≤ 4000 := HT.out _ (List.getElem_mem hlt)
      have hgl : (M[i]).2.length = 32 := HH.out _ (List.getElem_mem hlt)
      have hsn : be4n M.length ++ encL (M.take (i + 1)) = (be4n M.length ++ encL (M.take i)) ++ be4n (M[i]).1.length ++ (M[i]).1 ++ (M[i]).2 := by
        rw [List.take_succ_eq_append_getElem hlt, encL_snoc]
        simp
      have hbd := HEB.out i
      generalize M[i] = xg at *
      obtain ⟨x, g⟩ := xg
      simp only at hxs hgl hsn
      obtain ⟨b, eb⟩ : ∃ b, b = be4n M.length ++ encL (M.take i) := ⟨_, rfl⟩
      rw [← eb] at HO3 HNB hsn hbd
      have HSN := Lib.hid hsn
      have HBD := Lib.hid hbd
      have HGL := Lib.hid hgl
      have HXS := Lib.hid hxs
      have HRM := Lib.hid (show ∀ W, Below w.heap.size w W → RC W (some ⟨bl, ol + i * 33 + 1, none⟩) (bv g) from fun W h _ => ⟨_, rfl, fun j v hj => by
        have := cell_below h (hRG (j + 1) v (by simpa [lk] using hj))
        rw [add_off]
        rwa [show ol + i * 33 + (j + 1) = ol + i * 33 + 1 + j by omega] at this⟩)
      have k0 := cell_below HB.out (hRG 0 _ rfl)
      obtain ⟨sx, esx⟩ : ∃ sx, sx = strB x := ⟨_, rfl⟩
      have k1 : wr.cell? ⟨bl, ol + i * 33, none⟩ = some (.string sx) := by rw [esx]; exact k0
      have ESX := Lib.hid esx
      have hi0 : (0 : Int) ≤ (i : Int) := by omega
      have hi1 : (i : Int) < (M.length : Int) := by omega
      have HLT := Lib.hid hlt
      clear e1 hRG hxs hgl hsn hbd eb k0 esx hlt hi
      go_upto_region 5 with fail
      go_region_law (first
        | (refine step_append_any rfl (.tmp 20) (.tmp 25) 25 rfl w.heap.size 5 (.int .u8 0) 1 1 Try.underlying25 info8 rfl (by omega) (by omega) (.slice A5 (b.length + 4 + x.length) c5) (b.length + 4 + x.length) (bv (b ++ be4n x.length ++ x)) (by simp [Act.eval, Act.put]) HO5.out (some ⟨bl, ol + i * 33 + 1, none⟩) 32 32 (bv g) (by simp [Act.eval, Act.put]) (by rw [bv_length, HGL.out]) (HRM.out _ HB5.out) (bv_one _) (by have := HBD.out; have := HXS.out; omega) HB5.out.size ?_; intro v6 w6 ho6 hg6 hv6)
        | (refine op_call #[.slice A3 nb c3, .string sx] (by simp [Region.wanted]) rfl Try.func45 (by kernel_rfl) rfl (by simp [Act.eval, Act.put]) ?_; rw [ESX.out]; refine (refText_any A3 nb c3 b x wr.drew HNB.out.symm (by have := HBD.out; omega) ((own_RC HO3.out).bytes.below ((Below.refl _ _).drew)) (by have := HXS.out; omega)).mono ?_; rintro e w5 ⟨v5, rfl, ho5, hb5⟩; obtain ⟨A5, c5, rfl, _⟩ := own_slice ho5; have HO5 := Lib.hid (own_lower ho5 HB.out.size); have HB5 := Lib.hid (below_below HB.out.drew (show w.heap.size ≤ wr.drew.heap.size from HB.out.size) hb5); clear ho5 hb5; refine ⟨_, rfl, ?_⟩))
      all_goals
        obtain ⟨A6, c6, rfl, _⟩ := own_slice ho6
        have HB6 := Lib.hid (below_upd HB5.out HB5.out.size ((Upd.refl (fun k => (Value.slice A5 (b.length + 4 + x.length) c5).ownBlock = some k) w5).grown hg6 (fun k hk _ => hk)) (fun k hk => (HO5.out.lt k hk).1))
        have HO6 := Lib.hid (show w6.ownsRow w.heap.size 5 1 (.slice A6 (b.length + 4 + x.length + 32) c6) (b.length + 4 + x.length + 32) (bv (be4n M.length ++ encL (M.take (i + 1)))) by rw [HSN.out, bv_append]; exact ho6)
        have HLE := Lib.hid (show b.length + 4 + x.length + 32 = (be4n M.length ++ encL (M.take (i + 1))).length by rw [HSN.out, List.length_append, List.length_append, List.length_append, be4n_length, HGL.out])
        clear ho6 hg6 hv6 k1
        go_wp2_with fail
        go_roundg (M.length - (i + 1))
        case measure => have := HK.out; have := HLT.out; omega
        case rel => exact ⟨i + 1, _, A6, c6, HLT.out, rfl, by go_num, rfl, HLE.out, HO6.out, HB6.out⟩
    · obtain rfl : i = M.length := by omega
      rw [List.take_length] at HO3 HNB
      have HEN := Lib.hid (show nb = (encOf M).length from HNB.out)
      go_wp2_with fail
      go_ret
      exact ⟨_, rfl, by rw [← HEN.out]; exact HO3.out, HB.out⟩
end Go.Proofs.Ytjakhemolecbnaa
end
