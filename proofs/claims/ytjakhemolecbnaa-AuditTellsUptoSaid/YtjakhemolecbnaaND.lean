/-
  The texts RefSha of this proof in one (what is used of them): what each proves is said at its head. No conditions beyond those that each theorem says.
-/
import Derived.Test.YtjakhemolecbnaaNB2

/-
  The walk of the reference's Sha.
-/
section
set_option linter.unusedVariables false
set_option linter.unusedSimpArgs false
namespace Go.Proofs.Ytjakhemolecbnaa
open Go.RowKit

def rotn (x : UInt32) (z : Int) : UInt32 := rotr x z.toNat
theorem turnq (x : UInt32) (z : Int) (w : World) (hz : z = 7 ∨ z = 18 ∨ z = 17 ∨ z = 19 ∨ z = 6 ∨ z = 11 ∨ z = 25 ∨ z = 2 ∨ z = 13 ∨ z = 22) : Calls Try.prog 87 #[.int .u32 (un32 x), .int .u64 z] w fun e w' => e = .returned (.int .u32 (un32 (rotn x z))) ∧ w' = w := by
  rcases hz with rfl | rfl | rfl | rfl | rfl | rfl | rfl | rfl | rfl | rfl
  · exact (turn_7 x w).mono fun _ _ h => ⟨h.1, h.2.symm⟩
  · exact (turn_18 x w).mono fun _ _ h => ⟨h.1, h.2.symm⟩
  · exact (turn_17 x w).mono fun _ _ h => ⟨h.1, h.2.symm⟩
  · exact (turn_19 x w).mono fun _ _ h => ⟨h.1, h.2.symm⟩
  · exact (turn_6 x w).mono fun _ _ h => ⟨h.1, h.2.symm⟩
  · exact (turn_11 x w).mono fun _ _ h => ⟨h.1, h.2.symm⟩
  · exact (turn_25 x w).mono fun _ _ h => ⟨h.1, h.2.symm⟩
  · exact (turn_2 x w).mono fun _ _ h => ⟨h.1, h.2.symm⟩
  · exact (turn_13 x w).mono fun _ _ h => ⟨h.1, h.2.symm⟩
  · exact (turn_22 x w).mono fun _ _ h => ⟨h.1, h.2.symm⟩

theorem info89 : (Try.prog.info? 142).map (·.size) = some 64 := by kernel_rfl
set_option maxRecDepth 100000 in
set_option maxHeartbeats 1000000 in
theorem constants_any (w : World) : Calls Try.prog 86 #[] w fun e w' => e = .returned (.agg (wv shaK).toArray) ∧ Below w.heap.size w w' := by
  go_enter Try.func86, Try.ntmps86
  obtain ⟨ks, hks⟩ : ∃ ks, ks = (wv shaK).toArray := ⟨_, rfl⟩
  obtain ⟨zs, hzs⟩ : ∃ zs, zs = (wv (List.replicate 64 0)).toArray := ⟨_, rfl⟩
  have hkz : (Try.prog.info? 142).map (·.size) = some ks.size := by rw [hks]; exact info89
  go_upto_region 0 with fail
  refine wp_region_lit ?_
  refine Great.wpList_allocTo rfl _ rfl (.pointer (some ⟨w.heap.size, 0, none⟩)) (.cells zs 142) ?x1 ?_
  case x1 => rw [hzs]; kernel_rfl
  refine wpList_nil ?_
  rename_i hK
  refine hK _ _ ?_
  clear hK
  go_upto_region 1 with fail
  refine wp_region_lit ?_
  refine Great.wpList_readTo rfl _ rfl (.agg ks) ?x0 ?_
  case x0 => rw [hks]; kernel_rfl
  refine wpList_store_row rfl 142 (.tmp 0) (.tmp 1) rfl w.heap.size ks rfl rfl 142 zs (heap_alloc_new w _) hkz (by rw [hzs, hks]; rfl) (by rw [hks]; exact all_oneCell_toArray (wv_one _)) ?_
  refine wpList_nil ?_
  rename_i hK
  refine hK _ _ ?_
  apply wp_ret
  refine bodyPost_ret (v := .agg ks) ?_ rfl ?_
  case refine_2 => exact ⟨by rw [hks], below_setRow ((Below.refl _ _).alloc (Nat.le_refl _) _) _ _ (Nat.le_refl _)⟩
  exact results_cell_row rfl _ _ w.heap.size 142 ks (0, 0) _ rfl (setRow_heap _ _ _ _ _ _ (heap_alloc_new w _)) Try.underlying142 rfl hkz

theorem bt_flat (st : St) (a : Nat) (ha : a < 8) : bt (st.list.flatMap be4) (4 * a) = b24 (wd st.list a) ∧ bt (st.list.flatMap be4) (4 * a + 1) = b16 (wd st.list a) ∧ bt (st.list.flatMap be4) (4 * a + 2) = b08 (wd st.list a) ∧ bt (st.list.flatMap be4) (4 * a + 3) = b00 (wd st.list a) := by
  have h : a = 0 ∨ a = 1 ∨ a = 2 ∨ a = 3 ∨ a = 4 ∨ a = 5 ∨ a = 6 ∨ a = 7 := by omega
  rcases h with rfl | rfl | rfl | rfl | rfl | rfl | rfl | rfl <;> exact ⟨rfl, rfl, rfl, rfl⟩
theorem out_byte (st : St) (a b : Nat) (ha : a < 8) (hb : b < 4) : un32 (wd st.list a) / 2 ^ (24 - 8 * b) % 256 = un8 (bt (st.list.flatMap be4) (4 * a + b)) := by
  obtain ⟨h0, h1, h2, h3⟩ := bt_flat st a ha
  have h : b = 0 ∨ b = 1 ∨ b = 2 ∨ b = 3 := by omega
  rcases h with rfl | rfl | rfl | rfl
  · rw [show 4 * a + 0 = 4 * a from rfl, h0]; exact cut24 _
  · rw [h1]; exact cut16 _
  · rw [h2]; exact cut08 _
  · rw [h3, show (2 : Int) ^ (24 - 8 * 3) = 1 from rfl, Int.ediv_one]; exact cut00 _
/-- What is written when x bytes are. -/
def outB (f : List UInt8) (x : Nat) : List UInt8 := f.take x ++ List.replicate (32 - x) 0
theorem outB_length (f : List UInt8) (x : Nat) (hf : f.length = 32) (h : x ≤ 32) : (outB f x).length = 32 := by simp [outB, hf]; omega
theorem outB_done (f : List UInt8) (hf : f.length = 32) : outB f 32 = f := by rw [outB, List.take_of_length_le (by omega)]; simp
theorem outB_succ (f : List UInt8) (x : Nat) (hf : f.length = 32) (h : x < 32) : (outB f x).set x (bt f x) = outB f (x + 1) := by
  unfold outB
  rw [List.set_append_right _ _ (by rw [List.length_take]; omega), List.length_take, Nat.min_eq_left (by omega), Nat.sub_self, show 32 - x = (32 - (x + 1)) + 1 by omega, List.replicate_succ,
    List.take_succ_eq_append_getElem (by omega : x < f.length), bt_get f x (by omega), List.set_cons_zero, List.append_assoc]
  rfl
theorem flat_length (st : St) : (st.list.flatMap be4).length = 32 := by simp [St.list, be4]
/-- A round as the reference adds it up. -/
def rnd2 (s : St) (k w : UInt32) : St := ⟨t1Of s k w + bigA s.a + major s.a s.b s.c, s.a, s.b, s.c, s.d + t1Of s k w, s.e, s.f, s.g⟩
theorem bigE_rotn (e : UInt32) : rotn e 6 ^^^ rotn e 11 ^^^ rotn e 25 = bigE e := rfl
theorem bigA_rotn (e : UInt32) : rotn e 2 ^^^ rotn e 13 ^^^ rotn e 22 = bigA e := rfl
theorem rnd2_eq (s : St) (k w : UInt32) : rnd2 s k w = rnd s k w := by simp only [rnd2, rnd, t2Of, UInt32.add_assoc]
/-- The memory of the reference's Sha, behind its constants. -/
structure ISt (w wr : World) (g cc kb : Nat) (p : List UInt8) (hs : List UInt32) : Prop where
  a0 : Arr wr w.heap.size 86 (bv (List.replicate 32 0))
  a1 : Arr wr (w.heap.size + 1) 141 (wv hs)
  own : wr.ownsRow (w.heap.size + 2) 5 1 (.slice (some ⟨g, 0, none⟩) p.length cc) p.length (bv p)
  ak : Arr wr kb 142 (wv shaK)
  b : Below w.heap.size w wr
  g0 : w.heap.size + 2 ≤ g
  gk : g < kb
section
variable {w wr : World} {g cc kb : Nat} {p : List UInt8} {hs : List UInt32}
theorem ISt.drewN (h : ISt w wr g cc kb p hs) (n : Nat) : ISt w (wr.drewN n) g cc kb p hs :=
  ⟨h.a0, h.a1, own_upd h.own (Upd.drewN (Upd.refl (fun _ => False) _) n) (fun _ _ => id), h.ak, (Upd.drewN (Upd.of_below (F := fun k => w.heap.size ≤ k) h.b) n).to_below (Nat.le_refl _) (fun k hk => by omega), h.g0, h.gk⟩
theorem ISt.drew (h : ISt w wr g cc kb p hs) : ISt w wr.drew g cc kb p hs :=
  ⟨h.a0, h.a1, own_upd h.own (Upd.drew (Upd.refl (fun _ => False) _)) (fun _ _ => id), h.ak, h.b.drew, h.g0, h.gk⟩
theorem ISt.alloc (h : ISt w wr g cc kb p hs) (o : Obj) : ISt w (wr.alloc o) g cc kb p hs :=
  ⟨h.a0.alloc _, h.a1.alloc _, h.own.alloc _, h.ak.alloc _, h.b.alloc h.b.size _, h.g0, h.gk⟩
theorem ISt.set (h : ISt w wr g cc kb p hs) (q i : Nat) (v : Value) (hq : kb < q) : ISt w (wr.setCell ⟨q, i, none⟩ v) g cc kb p hs := by
  have := h.g0
  have := h.gk
  exact ⟨h.a0.set_other _ (by simp; omega) _, h.a1.set_other _ (by simp; omega) _,
    own_upd h.own (Upd.setCell (F := fun k => k = q) (Upd.refl _ _) (fun _ => rfl) v) (fun k hk => by simp [Value.ownBlock] at hk; omega),
    h.ak.set_other _ (by simp; omega) _, h.b.setCell (by simp; omega) _, h.g0, h.gk⟩
theorem ISt.row (h : ISt w wr g cc kb p hs) (q : Nat) (cs : Array Value) (hq : kb < q) : ISt w (wr.setRow q cs) g cc kb p hs := by
  have := h.g0
  have := h.gk
  exact ⟨h.a0.setRow_other _ _ (by omega), h.a1.setRow_other _ _ (by omega),
    own_upd h.own (upd_setRow (F := fun k => k = q) (Upd.refl _ _) q cs (fun _ => rfl)) (fun k hk => by simp [Value.ownBlock] at hk; omega),
    h.ak.setRow_other _ _ (by omega), below_setRow h.b _ _ (by omega), h.g0, h.gk⟩
theorem ISt.add (h : ISt w wr g cc kb p hs) (i : Nat) (x : UInt32) : ISt w (wr.setCell ⟨w.heap.size + 1, i, none⟩ (.int .u32 (un32 x))) g cc kb p (hs.set i x) := by
  have := h.g0
  have := h.gk
  exact ⟨h.a0.set_other _ (by simp) _, by rw [← wv_set]; exact h.a1.set _ _,
    own_upd h.own (Upd.setCell (F := fun k => k = w.heap.size + 1) (Upd.refl _ _) (fun _ => rfl) _) (fun k hk => by simp [Value.ownBlock] at hk; omega),
    h.ak.set_other _ (by simp; omega) _, h.b.setCell (by simp) _, h.g0, h.gk⟩
end

section
attribute [local go_sem] un8_mod32 or32 shl24 shl16 shl8 xor32 and32 shr3 shr10 add32 ones32
set_option maxRecDepth 100000 in
set_option maxHeartbeats 100000000 in
theorem refSha_any (A : Option Addr) (n c : Nat) (l : List UInt8) (w : World) (hl : l.length = n) (hn : n ≤ 100000000) (hr : RB w A l) :
    Calls Try.prog 75 #[.slice A n c] w fun e w' => e = .returned (.agg (bv (shaOf l)).toArray) ∧ Below w.heap.size w w' := by
  subst hl
  have HR := Lib.hid hr
  clear hr
  go_enter Try.func75, Try.ntmps75
  obtain ⟨z32, hz32⟩ : ∃ z32, z32 = (bv (List.replicate 32 0)).toArray := ⟨_, rfl⟩
  obtain ⟨z8, hz8⟩ : ∃ z8, z8 = (wv (List.replicate 8 0)).toArray := ⟨_, rfl⟩
  obtain ⟨s8, hs8⟩ : ∃ s8, s8 = (wv h0.list).toArray := ⟨_, rfl⟩
  have hkz : (Try.prog.info? 141).map (·.size) = some s8.size := by rw [hs8, stSize]; exact info88
  go_upto_region 0 with fail
  refine wp_region_lit ?_
  refine Great.wpList_allocTo rfl _ rfl (.pointer (some ⟨w.heap.size, 0, none⟩)) (.cells z32 86) ?x1 ?_
  case x1 => rw [hz32]; kernel_rfl
  refine wpList_nil ?_
  rename_i hK
  refine hK _ _ ?_
  clear hK
  obtain ⟨w1, hw1⟩ : ∃ w1, w1 = w.alloc (.cells z32 86) := ⟨_, rfl⟩
  rw [← hw1]
  have hs1 : w1.heap.size = w.heap.size + 1 := by rw [hw1]; simp
  have hA0 : Arr w1 w.heap.size 86 (bv (List.replicate 32 0)) := by rw [hw1, hz32]; exact Arr.new _ _ _
  have hB1 : Below w.heap.size w w1 := by rw [hw1]; exact (Below.refl _ _).alloc (Nat.le_refl _) _
  clear hw1 hz32
  have HA0 := Lib.hid hA0
  have HB1 := Lib.hid hB1
  have HS1 := Lib.hid hs1
  have HKZ := Lib.hid hkz
  clear hA0 hB1 hs1 hkz
  go_upto_region 1 with fail
  refine wp_region_lit ?_
  refine Great.wpList_readTo rfl _ rfl (.agg s8) ?x2 ?_
  case x2 => rw [hs8]; kernel_rfl
  refine Great.wpList_allocTo rfl _ rfl (.pointer (some ⟨w.heap.size + 1, 0, none⟩)) (.cells z8 141) ?x3 ?_
  case x3 => rw [hz8, ← HS1.out]; kernel_rfl
  refine wpList_store_row rfl 141 (.tmp 3) (.tmp 24) rfl (w.heap.size + 1) s8 rfl rfl 141 z8 (by rw [hz8]; exact Arr.new_at _ _ _ _ HS1.out.symm) HKZ.out (by rw [hz8, hs8]; rfl) (by rw [hs8]; exact all_oneCell_toArray (wv_one _)) ?_
  refine wpList_nil ?_
  rename_i hK
  refine hK _ _ ?_
  clear hK
  obtain ⟨w2, hw2⟩ : ∃ w2, w2 = (w1.alloc (.cells z8 141)).setRow (w.heap.size + 1) s8 := ⟨_, rfl⟩
  rw [← hw2]
  have hs1 := HS1.out
  have hs2 : w2.heap.size = w.heap.size + 2 := by rw [hw2]; simp [hs1]
  have hA0 : Arr w2 w.heap.size 86 (bv (List.replicate 32 0)) := by rw [hw2]; exact (HA0.out.alloc _).setRow_other _ _ (by omega)
  have hA1 : Arr w2 (w.heap.size + 1) 141 (wv h0.list) := by rw [hw2, hs8, hz8]; exact Arr.setRow (Arr.new_at _ _ (wv (List.replicate 8 0)) _ hs1.symm) _
  have hB2 : Below w.heap.size w w2 := by rw [hw2]; exact below_setRow (HB1.out.alloc HB1.out.size _) _ _ (by omega)
  clear hw2 hz8 hs8 HA0 HB1 HS1 HKZ hs1
  have HA0 := Lib.hid hA0
  have HA1 := Lib.hid hA1
  have HB2 := Lib.hid hB2
  have HS2 := Lib.hid hs2
  clear hA0 hA1 hB2 hs2
  have HR2 := Lib.hid (HR.out.below HB2.out)
  clear HR
  go_wp2_with (at_builtin; refine append_bytes rfl _ _ 25 rfl w2.heap.size 5 Try.underlying25 info8 _ [] rfl (World.ownsRow_lit w2 #[] 0 (Nat.le_refl _) (by simp [maxLen]) rfl) _ _ _ l rfl rfl (HR2.out.below ((Below.refl _ _).alloc (Nat.le_refl _) _)) ?c1 ?c2 ?_)
  case c1 => simp; omega
  case c2 => simp
  intro v wa ho hg hat
  have ho' : wa.ownsRow w2.heap.size 5 1 v l.length (bv l) := by simpa using ho
  have HO := Lib.hid ho'
  have hb1 : Below w2.heap.size w2 wa := ((Below.refl _ _).alloc (Nat.le_refl _) _).grown hg (by simp) (fun k hk => by simp [Value.ownBlock] at hk; omega)
  have HB := Lib.hid hb1
  clear hb1
  clear ho ho' hg hat
  go_wp2_with (at_builtin; refine append_bytes rfl _ _ 25 rfl w2.heap.size 5 Try.underlying25 info8 _ l rfl (HO.out.alloc _) _ 1 _ [128] rfl rfl (RB_new wa [128] 5) ?c1 ?c2 ?_)
  case c1 => omega
  case c2 => have := HB.out.size; simp; omega
  intro v2 wb ho2 hg2 hat2
  have ho2' : wb.ownsRow w2.heap.size 5 1 v2 (padA l 0).length (bv (padA l 0)) := by rw [padA_zero, List.length_append]; exact ho2
  have HO2 := Lib.hid ho2'
  have hbb : Below w2.heap.size w2 wb := (HB.out.alloc HB.out.size _).grown hg2 (by have := HB.out.size; simp; omega) (fun k hk => (World.ownsRow.lt HO.out k hk).1)
  have HBB := Lib.hid hbb
  clear ho2 ho2' hg2 hat2 hbb HO HB
  go_wp2_with fail
  go_loopg [4] (padZ l.length) (fun k s4 wr => ∃ j : Nat, j ≤ padZ l.length ∧ k = padZ l.length - j ∧ wr.ownsRow w2.heap.size 5 1 s4 (padA l j).length (bv (padA l j)) ∧ Below w2.heap.size w2 wr)
  case atStart => exact ⟨0, Nat.zero_le _, by omega, HO2.out, HBB.out⟩
  case round =>
    obtain ⟨j, hj, hk, hown, hb⟩ := hrel
    have hp64 := padZ_lt l.length
    clear HO2 HBB hp64
    obtain ⟨A3, c3, rfl, _⟩ := own_slice hown
    by_cases hlt : j < padZ l.length
    · have hne : (((padA l j).length : Int) % 64 != 56) = true := by
        rw [padA_length, bne_iff_ne]; have := padZ_not l.length j hlt; omega
      have hlen : (padA l j).length ≤ 100000065 := by rw [padA_length]; have := padZ_lt l.length; omega
      have HK := Lib.hid hk
      have HO := Lib.hid hown
      have HB := Lib.hid hb
      have HLT := Lib.hid hlt
      clear hk hown hb hlt
      go_wp2_with (at_builtin; refine append_bytes rfl _ _ 25 rfl w2.heap.size 5 Try.underlying25 info8 _ (padA l j) rfl (HO.out.alloc _) _ 1 _ [0] rfl rfl (RB_new wr [0] 5) ?c1 ?c2 ?_)
      case c1 => omega
      case c2 => have := HB.out.size; simp; omega
      intro v3 wc ho3 hg3 _
      have hb3 : Below w2.heap.size w2 wc := (HB.out.alloc HB.out.size _).grown hg3 (by have := HB.out.size; simp; omega) (fun k hk => (World.ownsRow.lt HO.out k hk).1)
      have HO3 := Lib.hid ho3
      have HB3 := Lib.hid hb3
      clear ho3 hg3 hb3
      go_wp2_with fail
      go_roundg (padZ l.length - (j + 1))
      case measure => have := HK.out; have := HLT.out; omega
      case rel =>
        refine ⟨j + 1, HLT.out, rfl, ?_, HB3.out⟩
        rw [padA_snoc, List.length_append]; exact HO3.out
    · obtain rfl : j = padZ l.length := by omega
      have heq : (((padA l (padZ l.length)).length : Int) % 64 != 56) = false := by
        rw [padA_length, bne_eq_false_iff_eq]; have := padZ_done l.length; omega
      have hlen : (padA l (padZ l.length)).length ≤ 100000065 := by rw [padA_length]; have := padZ_lt l.length; omega
      have HP := Lib.hid (padOf_eq l)
      generalize padA l (padZ l.length) = la at *
      have HO := Lib.hid hown
      have HB := Lib.hid hb
      clear hown hb hk hj hlt
      have hu := u64_len l.length hn
      go_wp2_with fail
      go_loopg [4, 6] 9 (fun k s4 s6 wr => ∃ i : Nat, i ≤ 8 ∧ k = 9 - i ∧ (∃ z : Int, z = 7 - (i : Int) ∧ s6 = .int .i64 z) ∧ wr.ownsRow w2.heap.size 5 1 s4 (la ++ lenBytes (l.length * 8) i).length (bv (la ++ lenBytes (l.length * 8) i)) ∧ Below w2.heap.size w2 wr)
      case atStart => exact ⟨0, Nat.zero_le _, by omega, ⟨7, by omega, rfl⟩, by rw [show lenBytes (l.length * 8) 0 = [] from rfl, List.append_nil]; exact HO.out, HB.out⟩
      case round =>
        obtain ⟨i, hi, hk, ⟨z, hz, rfl⟩, hown, hb⟩ := hrel
        clear HO HB
        have hlb : (lenBytes (l.length * 8) i).length = i := lenBytes_length _ _
        have HK := Lib.hid hk
        have HO := Lib.hid hown
        have HB := Lib.hid hb
        clear hk hown hb
        by_cases hlt : i < 8
        · have hz0 : 0 ≤ z := by omega
          have hz1 : z ≤ 7 := by omega
          obtain ⟨y, hy⟩ : ∃ y : Int, 8 * z = y := ⟨_, rfl⟩
          have hy0 : 0 ≤ y := by omega
          have hy1 : y ≤ 56 := by omega
          have hB : (l.length : Int) * 8 / 2 ^ y.toNat % 256 = un8 (byteAt (l.length * 8) (56 - 8 * i)) := by
            rw [byteAt_un8, show y.toNat = 56 - 8 * i by omega, Int.natCast_emod, Int.natCast_ediv, Int.natCast_pow, Int.natCast_mul]
            rfl
          have HS := Lib.hid (lenBytes_snoc (l.length * 8) i)
          have HZ := Lib.hid hz
          have HLT := Lib.hid hlt
          have HI := Lib.hid hi
          clear hz hlt hi
          generalize lenBytes (l.length * 8) i = lb at *
          generalize byteAt (l.length * 8) (56 - 8 * i) = bb at *
          have HLB := Lib.hid hlb
          go_wp2_with (at_builtin; refine append_bytes rfl _ _ 25 rfl w2.heap.size 5 Try.underlying25 info8 _ (la ++ lb) rfl (HO.out.alloc _) _ 1 _ [bb] rfl rfl (RB_new wr [bb] 5) ?c1 ?c2 ?_)
          case c1 => have := HI.out; simp; omega
          case c2 => have := HB.out.size; simp; omega
          intro v3 wc ho3 hg3 _
          have hb3 : Below w2.heap.size w2 wc := (HB.out.alloc HB.out.size _).grown hg3 (by have := HB.out.size; simp; omega) (fun k hk => (World.ownsRow.lt HO.out k hk).1)
          have HO3 := Lib.hid ho3
          have HB3 := Lib.hid hb3
          clear ho3 hg3 hb3
          go_wp2_with fail
          go_roundg (9 - (i + 1))
          case measure => have := HK.out; have := HLT.out; omega
          case rel =>
            refine ⟨i + 1, HLT.out, rfl, ⟨_, ?_, rfl⟩, ?_, HB3.out⟩
            · have := HZ.out; omega
            · have := HLB.out; rw [HS.out, show (la ++ (lb ++ [bb])).length = la.length + i + 1 by simp; omega]; exact HO3.out
        · obtain rfl : i = 8 := by omega
          obtain rfl : z = -1 := by omega
          rw [← HP.out] at HO
          clear hlb HP
          obtain ⟨p, hp⟩ : ∃ p, p = padOf l := ⟨_, rfl⟩
          rw [← hp] at HO
          have HN := Lib.hid (padOf_length l)
          have HM := Lib.hid (padOf_mod l)
          rw [← hp] at HN HM
          have HPP := Lib.hid hp
          clear hp
          obtain ⟨g, cc, rfl, hbg, hcc⟩ := own_form HO.out (by have := HN.out; omega)
          have hbg' : w.heap.size + 2 ≤ g := by have := HS2.out; omega
          clear hbg
          go_wp2_with fail
          refine (constants_any wr).mono ?_
          rintro e w3 ⟨rfl, hb3⟩
          obtain ⟨ks, hks⟩ : ∃ ks, ks = (wv shaK).toArray := ⟨_, rfl⟩
          obtain ⟨zs, hzs⟩ : ∃ zs, zs = (wv (List.replicate 64 0)).toArray := ⟨_, rfl⟩
          rw [← hks]
          have hkz : (Try.prog.info? 142).map (·.size) = some ks.size := by rw [hks]; exact info89
          have HKS := Lib.hid hks
          have HZS := Lib.hid hzs
          have HKZ := Lib.hid hkz
          have hW3 : ISt w ((w3.alloc (.cells zs 142)).setRow w3.heap.size ks) g cc w3.heap.size p h0.list := by
            have hs2 := HS2.out
            have hz2 := HB.out.size
            have hz3 := hb3.size
            have e0 := (HA0.out.below HB.out (by omega)).below hb3 (by omega)
            have e1 := (HA1.out.below HB.out (by omega)).below hb3 (by omega)
            have e2 := own_below HO.out hb3
            have hgl : g < w3.heap.size := by
              have := (World.ownsRow.lt e2 g rfl).2
              omega
            rw [hs2] at e2
            exact ⟨(e0.alloc _).setRow_other _ _ (by omega), (e1.alloc _).setRow_other _ _ (by omega),
              own_upd (e2.alloc _) (upd_setRow (F := fun k => k = w3.heap.size) (Upd.refl _ _) _ ks (fun _ => rfl)) (fun k hk => by simp [Value.ownBlock] at hk; omega),
              by rw [hks, hzs]; exact (Arr.new w3 _ (wv (List.replicate 64 0))).setRow _,
              below_setRow ((below_below HB2.out HB2.out.size (below_below HB.out HB.out.size hb3)).alloc (by omega) _) _ _ (by omega), hbg', hgl⟩
          clear hks hzs hkz hb3 HA0 HA1 HB HO
          have HI3 := Lib.hid hW3
          clear hW3
          go_upto_region 11 with (first
            | refine Great.wpList_allocTo rfl (some 7) rfl (.pointer (some ⟨w3.heap.size, 0, none⟩)) (.cells zs 142) (by rw [HZS.out]; kernel_rfl) ?_
            | refine wpList_store_row rfl 142 (.tmp 7) (.tmp 54) rfl w3.heap.size ks rfl rfl 142 zs (heap_alloc_new w3 _) HKZ.out (by rw [HZS.out, HKS.out]; rfl) (by rw [HKS.out]; exact all_oneCell_toArray (wv_one _)) ?_)
          generalize (w3.alloc (.cells zs 142)).setRow w3.heap.size ks = w4 at *
          generalize w3.heap.size = kb at *
          have hlen2 : p.length ≤ 100000100 := by have := HN.out; have := padZ_lt l.length; omega
          obtain ⟨N, hN⟩ : ∃ N, p.length = 64 * N := ⟨p.length / 64, by have := HM.out; omega⟩
          have HNN := Lib.hid hN
          clear hN heq hu
          go_wp2_with fail
          go_loopg [8] N (fun k s8 wr => ∃ i m : Nat, i ≤ N ∧ k = N - i ∧ m = 64 * i ∧ s8 = .int .i64 (m : Int) ∧ ISt w wr g cc kb p (stAt p i).list)
          case atStart => exact ⟨0, 0, by omega, by omega, rfl, rfl, HI3.out⟩
          case round =>
            obtain ⟨i, m, hi, hk, hm, rfl, hst⟩ := hrel
            clear HI3
            have HST := Lib.hid hst
            have HKO := Lib.hid hk
            have hN := HNN.out
            by_cases hlt : i < N
            · have hm1 : (m : Int) + 64 ≤ (p.length : Int) := by omega
              have hm2 : (0 : Int) ≤ (m : Int) := by omega
              have HLO := Lib.hid hlt
              have HMM := Lib.hid hm
              clear hst hk hN hlt hm hi
              go_upto_region 14 with fail
              refine wp_region_lit ?_
              obtain ⟨q, hq⟩ : ∃ q, q = wr.heap.size := ⟨_, rfl⟩
              refine Great.wpList_allocTo rfl _ rfl (.pointer (some ⟨q, 0, none⟩)) (.cells zs 142) ?x7 ?_
              case x7 => rw [HZS.out, hq]; kernel_rfl
              refine wpList_nil ?_
              rename_i hK
              refine hK _ _ ?_
              clear hK
              have hkq : kb < q := by rw [hq]; exact HST.out.ak.lt
              have HST1 := Lib.hid (HST.out.alloc (.cells zs 142))
              have HQ := Lib.hid (show Arr (wr.alloc (.cells zs 142)) q 142 (wv (schedZ ((p.drop m).take 64) 0)) by rw [HZS.out]; exact Arr.new_at _ _ (wv (List.replicate 64 0)) _ hq)
              have HKQ := Lib.hid hkq
              clear hq HST hkq
              generalize wr.alloc (.cells zs 142) = w5 at *
              have HS := Lib.hid (show compress (stAt p i) ((p.drop m).take 64) = stAt p (i + 1) by rw [HMM.out]; rfl)
              unfold compress at HS
              have HBL := Lib.hid (show ∀ j, j < 64 → bt ((p.drop m).take 64) j = bt p (m + j) by
                intro j hj
                simp [bt, List.getD_eq_getElem?_getD, List.getElem?_take, hj])
              generalize (p.drop m).take 64 = blk at *
              generalize hsi : stAt p i = st at *
              clear hsi
              go_wp2_with fail
              go_loopg [10] 16 (fun k s10 wr => ∃ j : Nat, j ≤ 16 ∧ k = 16 - j ∧ s10 = .int .i64 (j : Int) ∧ ISt w wr g cc kb p st.list ∧ Arr wr q 142 (wv (schedZ blk j)))
              case atStart => exact ⟨0, by omega, by omega, rfl, HST1.out, HQ.out⟩
              case round =>
                obtain ⟨j, hj, hk, rfl, hst, hq⟩ := hrel
                clear HST1 HQ
                have HST := Lib.hid hst
                have HQ := Lib.hid hq
                have HKI := Lib.hid hk
                clear hst hq hk
                by_cases hlt : j < 16
                · as_aux_lemma =>
                    obtain ⟨k, hk⟩ : ∃ k : Nat, k = m + 4 * j := ⟨_, rfl⟩
                    have hbd : k + 3 < p.length := by omega
                    have hcc : ∀ x, x < p.length → wr.cell? ⟨g, x, none⟩ = some (.int .u8 (un8 (bt p x))) := by
                      intro x hx
                      rw [bt_get p x hx]
                      exact own_byte HST.out.own x hx
                    have c0 := hcc k (by omega)
                    have c1 := hcc (k + 1) (by omega)
                    have c2 := hcc (k + 2) (by omega)
                    have c3 := hcc (k + 3) (by omega)
                    have hk4 : (m : Int) + 4 * (j : Int) = (k : Int) := by omega
                    have hb1 : (k : Int) + 3 < (p.length : Int) := by omega
                    have hb2 : (0 : Int) ≤ (k : Int) := by omega
                    have hb3 : (0 : Int) ≤ (j : Int) := by omega
                    have hb4 : (j : Int) < 16 := by omega
                    have cw := HQ.out.word (i := j) (by rw [schedZ_length _ _ (by omega)]; omega)
                    have cf := HQ.out.frozen j
                    have HW := Lib.hid (show be32 blk (4 * j) = be32 p k by
                      unfold be32
                      rw [HBL.out _ (by omega), HBL.out _ (by omega), HBL.out _ (by omega), HBL.out _ (by omega), hk]
                      rfl)
                    have HLI := Lib.hid hlt
                    clear hcc hbd hk hlt hj
                    go_upto_region 18 with fail
                    go_region
                    all_goals
                      go_wp2_with fail
                      go_roundg (16 - (j + 1))
                      case measure => have := HKI.out; have := HLI.out; omega
                      case rel =>
                        have hlj := HLI.out
                        have hkq := HKQ.out
                        refine ⟨j + 1, HLI.out, rfl, by go_num, (HST.out.set _ _ _ hkq).drew, ?_⟩
                        have h2 := HQ.out.set j (W32 (be32 p k))
                        rw [show (wv (schedZ blk j)).set j (W32 (be32 p k)) = wv (schedZ blk (j + 1)) by
                          rw [schedZ_succ blk j (by omega) (be32 p k) (by rw [← HW.out]; exact sched_lo blk j (by omega)), ← wv_set]; rfl] at h2
                        exact h2
                · obtain rfl : j = 16 := by omega
                  clear hlt hj HKI
                  go_wp2_with fail
                  go_loopg [11, 12, 13] 48 (fun k s11 s12 s13 wr => ∃ d : Nat, d ≤ 48 ∧ k = 48 - d ∧ s11 = .int .i64 ((d : Int) + 16) ∧ ISt w wr g cc kb p st.list ∧ Arr wr q 142 (wv (schedZ blk (d + 16))))
                  case atStart => exact ⟨0, by omega, by omega, rfl, HST.out, HQ.out⟩
                  case round =>
                    obtain ⟨d, hd, hk, rfl, hst, hq⟩ := hrel
                    clear HST HQ
                    have HST := Lib.hid hst
                    have HQ := Lib.hid hq
                    have HKJ := Lib.hid hk
                    clear hst hq hk
                    by_cases hlt : d < 48
                    · as_aux_lemma =>
                        have hlen3 : (schedZ blk (d + 16)).length = 64 := schedZ_length _ _ (by omega)
                        have hw0 := HQ.out.word (i := d) (by omega)
                        have hw1 := HQ.out.word (i := d + 1) (by omega)
                        have hw9 := HQ.out.word (i := d + 9) (by omega)
                        have hw14 := HQ.out.word (i := d + 14) (by omega)
                        obtain ⟨u16, hw16⟩ : ∃ u, wr.cell? ⟨q, d + 16, none⟩ = some u := ⟨_, HQ.out.word (i := d + 16) (by omega)⟩
                        rw [schedZ_wd _ _ _ (by omega)] at hw0 hw1 hw9 hw14
                        have hfw := HQ.out.frozen (d + 16)
                        have HSS := Lib.hid (sched_hi blk (d + 16) (by omega))
                        rw [show d + 16 - 16 = d by omega, show d + 16 - 15 = d + 1 by omega, show d + 16 - 7 = d + 9 by omega, show d + 16 - 2 = d + 14 by omega] at HSS
                        have hb1 : (d : Int) < 48 := by omega
                        have hb2 : (0 : Int) ≤ (d : Int) := by omega
                        generalize wd (sched blk (d + 16)) d = x0 at *
                        generalize wd (sched blk (d + 16)) (d + 1) = x1 at *
                        generalize wd (sched blk (d + 16)) (d + 9) = x9 at *
                        generalize wd (sched blk (d + 16)) (d + 14) = x14 at *
                        have HLJ := Lib.hid hlt
                        clear hlen3 hlt hd
                        go_upto_region 22 with fail
                        go_quiet ((go_at_call 87; exact Calls.quiet_of_same (turnq _ _ _ (by decide))))
                        have HST1 := Lib.hid (HST.out.drewN nq)
                        have HQ1 := Lib.hid (show Arr (wr.drewN nq) q 142 (wv (schedZ blk (d + 16))) from HQ.out)
                        have hw0 : (wr.drewN nq).cell? _ = _ := hw0
                        have hw9 : (wr.drewN nq).cell? _ = _ := hw9
                        have hw14 : (wr.drewN nq).cell? _ = _ := hw14
                        have hw16 : (wr.drewN nq).cell? _ = _ := hw16
                        have hfw : (wr.drewN nq).frozen? _ = _ := hfw
                        clear HST HQ hw1
                        generalize wr.drewN nq = wq at *
                        go_upto_region 23 with fail
                        clear nq
                        go_quiet ((go_at_call 87; exact Calls.quiet_of_same (turnq _ _ _ (by decide))))
                        have HST := Lib.hid (HST1.out.drewN nq)
                        have HQ := Lib.hid (show Arr (wq.drewN nq) q 142 (wv (schedZ blk (d + 16))) from HQ1.out)
                        have hw0 : (wq.drewN nq).cell? _ = _ := hw0
                        have hw9 : (wq.drewN nq).cell? _ = _ := hw9
                        have hw16 : (wq.drewN nq).cell? _ = _ := hw16
                        have hfw : (wq.drewN nq).frozen? _ = _ := hfw
                        clear HST1 HQ1 hw14
                        generalize wq.drewN nq = wp at *
                        go_upto_region 24 with fail
                        go_region
                        all_goals
                          go_wp2_with fail
                          go_roundg (48 - (d + 1))
                          case measure => have := HKJ.out; have := HLJ.out; omega
                          case rel =>
                            have hlj := HLJ.out
                            refine ⟨d + 1, HLJ.out, rfl, by go_num, (HST.out.set _ _ _ HKQ.out).drew, ?_⟩
                            have h2 := HQ.out.set (d + 16) (W32 (x0 + sig0 x1 + x9 + sig1 x14))
                            rw [show (wv (schedZ blk (d + 16))).set (d + 16) (W32 (x0 + sig0 x1 + x9 + sig1 x14)) = wv (schedZ blk (d + 1 + 16)) by
                              rw [show d + 1 + 16 = d + 16 + 1 by omega, schedZ_succ blk (d + 16) (by omega) _ HSS.out, ← wv_set]; rfl] at h2
                            exact h2
                    · obtain rfl : d = 48 := by omega
                      rw [show 48 + 16 = 64 from rfl, schedZ_done] at HQ
                      obtain ⟨ws, hws⟩ : ∃ ws, ws = sched blk 64 := ⟨_, rfl⟩
                      rw [← hws] at HQ HS
                      have HWL := Lib.hid (show ws.length = 64 by rw [hws, sched_length])
                      clear hws HBL hlt hd HKJ
                      go_upto_region 25 with fail
                      refine wp_region_lit ?_
                      obtain ⟨vb, hvb⟩ : ∃ vb, vb = wr.heap.size := ⟨_, rfl⟩
                      obtain ⟨ss, hss⟩ : ∃ ss, ss = (wv st.list).toArray := ⟨_, rfl⟩
                      obtain ⟨z9, hz9⟩ : ∃ z9, z9 = (wv (List.replicate 8 0)).toArray := ⟨_, rfl⟩
                      have hsz : (Try.prog.info? 141).map (·.size) = some ss.size := by rw [hss, stSize]; exact info88
                      refine wpList_load_row rfl 141 (.tmp 3) rfl (w.heap.size + 1) rfl 141 ss (0, 0) _ (by rw [hss]; exact HST.out.a1) Try.underlying141 rfl hsz ?_
                      refine Great.wpList_allocTo rfl _ rfl (.pointer (some ⟨vb, 0, none⟩)) (.cells z9 141) ?x8 ?_
                      case x8 => rw [hz9, hvb]; kernel_rfl
                      refine wpList_store_row rfl 141 (.tmp 14) (.tmp 161) rfl vb ss rfl rfl 141 z9 (by rw [hvb]; exact heap_alloc_new wr _) hsz (by rw [hz9, hss]; rfl) (by rw [hss]; exact all_oneCell_toArray (wv_one _)) ?_
                      refine wpList_nil ?_
                      rename_i hK
                      refine hK _ _ ?_
                      clear hK
                      have hqv : q < vb := by rw [hvb]; exact HQ.out.lt
                      have hkv : kb < vb := by rw [hvb]; exact HST.out.ak.lt
                      have HST6 := Lib.hid ((HST.out.alloc (.cells z9 141)).row vb ss hkv)
                      have HQ6 := Lib.hid ((HQ.out.alloc (.cells z9 141)).setRow_other vb ss (by omega))
                      have HV6 := Lib.hid (show Arr ((wr.alloc (.cells z9 141)).setRow vb ss) vb 141 (wv (roundsAt ws st 0).list) by
                        rw [hss, hz9]; exact (Arr.new_at wr _ (wv (List.replicate 8 0)) _ hvb).setRow _)
                      have HQV := Lib.hid hqv
                      have HKV := Lib.hid hkv
                      clear hqv hkv hss hz9 hvb hsz HST HQ
                      generalize (wr.alloc (.cells z9 141)).setRow vb ss = w6 at *
                      go_wp2_with fail
                      go_loopg [15] 64 (fun k s15 wr => ∃ x : Nat, x ≤ 64 ∧ k = 64 - x ∧ s15 = .int .i64 (x : Int) ∧ ISt w wr g cc kb p st.list ∧ Arr wr q 142 (wv ws) ∧ Arr wr vb 141 (wv (roundsAt ws st x).list))
                      case atStart => exact ⟨0, by omega, by omega, rfl, HST6.out, HQ6.out, HV6.out⟩
                      case round =>
                        obtain ⟨x, hx, hk, rfl, hst, hq, hv⟩ := hrel
                        clear HST6 HQ6 HV6
                        have HST := Lib.hid hst
                        have HQ := Lib.hid hq
                        have HKJ := Lib.hid hk
                        clear hst hq hk
                        by_cases hlt : x < 64
                        · skip
                          have HN2 := Lib.hid (show rnd (roundsAt ws st x) (wd shaK x) (wd ws x) = roundsAt ws st (x + 1) from rfl)
                          have HV := Lib.hid hv
                          clear hv
                          generalize roundsAt ws st x = v6 at *
                          obtain ⟨a, b, c, d, e, f, h7, h8⟩ := v6
                          have hcells : ∀ wx, Arr wx vb 141 (wv (St.list ⟨a, b, c, d, e, f, h7, h8⟩)) →
                              wx.cell? ⟨vb, 0, none⟩ = some (.int .u32 (un32 a)) ∧ wx.cell? ⟨vb, 1, none⟩ = some (.int .u32 (un32 b)) ∧ wx.cell? ⟨vb, 2, none⟩ = some (.int .u32 (un32 c)) ∧
                              wx.cell? ⟨vb, 3, none⟩ = some (.int .u32 (un32 d)) ∧ wx.cell? ⟨vb, 4, none⟩ = some (.int .u32 (un32 e)) ∧ wx.cell? ⟨vb, 5, none⟩ = some (.int .u32 (un32 f)) ∧
                              wx.cell? ⟨vb, 6, none⟩ = some (.int .u32 (un32 h7)) ∧ wx.cell? ⟨vb, 7, none⟩ = some (.int .u32 (un32 h8)) := fun wx h =>
                            ⟨h.cell (i := 0) rfl, h.cell (i := 1) rfl, h.cell (i := 2) rfl, h.cell (i := 3) rfl, h.cell (i := 4) rfl, h.cell (i := 5) rfl, h.cell (i := 6) rfl, h.cell (i := 7) rfl⟩
                          have HCELLS := Lib.hid hcells
                          clear hcells
                          obtain ⟨c0, c1, c2, c3, c4, c5, c6, c7⟩ := HCELLS.out _ HV.out
                          obtain ⟨kw, hkw⟩ : ∃ kw, kw = wd shaK x := ⟨_, rfl⟩
                          obtain ⟨ww, hww⟩ : ∃ ww, ww = wd ws x := ⟨_, rfl⟩
                          rw [← hkw, ← hww] at HN2
                          have CK := Lib.hid (show ∀ wx, ISt w wx g cc kb p st.list → wx.cell? ⟨kb, x, none⟩ = some (.int .u32 (un32 kw)) from fun wx h => by rw [hkw]; exact h.ak.word (i := x) hlt)
                          have CW := Lib.hid (show ∀ wx, Arr wx q 142 (wv ws) → wx.cell? ⟨q, x, none⟩ = some (.int .u32 (un32 ww)) from fun wx h => by rw [hww]; exact h.word (i := x) (by rw [HWL.out]; exact hlt))
                          have HLJ := Lib.hid hlt
                          have hi0 : (0 : Int) ≤ (x : Int) := by omega
                          have hi1 : (x : Int) < 64 := by omega
                          clear hkw hww hlt hx
                          obtain ⟨S1, hS1⟩ : ∃ y, y = bigE e := ⟨_, rfl⟩
                          obtain ⟨CH, hCH⟩ : ∃ y, y = choose3 e f h7 := ⟨_, rfl⟩
                          obtain ⟨T1, hT1⟩ : ∃ y, y = h8 + S1 + CH + kw + ww := ⟨_, rfl⟩
                          obtain ⟨A0, hA0⟩ : ∃ y, y = bigA a := ⟨_, rfl⟩
                          obtain ⟨MJ, hMJ⟩ : ∃ y, y = major a b c := ⟨_, rfl⟩
                          have HN3 := Lib.hid (show St.list ⟨T1 + A0 + MJ, a, b, c, d + T1, e, f, h7⟩ = (roundsAt ws st (x + 1)).list by
                            rw [← HN2.out, ← rnd2_eq, hMJ, hA0, hT1, hCH, hS1]; rfl)
                          have HS1 := Lib.hid hS1
                          have HCH := Lib.hid hCH
                          have HT1 := Lib.hid hT1
                          have HA0 := Lib.hid hA0
                          have HMJ := Lib.hid hMJ
                          clear hS1 hCH hT1 hA0 hMJ HN2
                          go_upto_region 29 with fail
                          go_cut [16] (fun s16 wx => s16 = .int .u32 (un32 S1) ∧ ISt w wx g cc kb p st.list ∧ Arr wx q 142 (wv ws) ∧ Arr wx vb 141 (wv (St.list ⟨a, b, c, d, e, f, h7, h8⟩)))
                          case first => as_aux_lemma =>
                            go_quiet ((go_at_call 87; exact Calls.quiet_of_same (turnq _ _ _ (by decide))))
                            go_wp2_with fail
                            go_meet
                            exact ⟨by rw [HS1.out, ← bigE_rotn], HST.out.drewN nq, HQ.out, HV.out⟩
                          case rest =>
                            obtain ⟨rfl, hst, hq, hv⟩ := hcut
                            clear HST HQ HV c0 c1 c2 c3 c4 c5 c6 c7
                            have HST := Lib.hid hst
                            have HQ := Lib.hid hq
                            have HV := Lib.hid hv
                            clear hst hq hv
                            obtain ⟨c0, c1, c2, c3, c4, c5, c6, c7⟩ := HCELLS.out _ HV.out
                            go_upto_region 30 with fail
                            go_cut [17] (fun s17 wx => s17 = .int .u32 (un32 CH) ∧ ISt w wx g cc kb p st.list ∧ Arr wx q 142 (wv ws) ∧ Arr wx vb 141 (wv (St.list ⟨a, b, c, d, e, f, h7, h8⟩)))
                            case first => as_aux_lemma =>
                              go_wp2_with fail
                              go_meet
                              exact ⟨by rw [HCH.out]; first | rfl | (simp only [ones32, xor32, and32]; rfl), HST.out, HQ.out, HV.out⟩
                            case rest =>
                              obtain ⟨rfl, hst, hq, hv⟩ := hcut
                              clear HST HQ HV c0 c1 c2 c3 c4 c5 c6 c7
                              have HST := Lib.hid hst
                              have HQ := Lib.hid hq
                              have HV := Lib.hid hv
                              clear hst hq hv
                              obtain ⟨c0, c1, c2, c3, c4, c5, c6, c7⟩ := HCELLS.out _ HV.out
                              go_upto_region 31 with fail
                              go_cut [18] (fun s18 wx => s18 = .int .u32 (un32 T1) ∧ ISt w wx g cc kb p st.list ∧ Arr wx q 142 (wv ws) ∧ Arr wx vb 141 (wv (St.list ⟨a, b, c, d, e, f, h7, h8⟩)))
                              case first => as_aux_lemma =>
                                have ck := CK.out _ HST.out
                                have cw := CW.out _ HQ.out
                                go_quiet (fail)
                                go_wp2_with fail
                                go_meet
                                exact ⟨by rw [HT1.out]; first | rfl | exact congrArg _ (add32 _ _), HST.out.drewN nq, HQ.out, HV.out⟩
                              case rest =>
                                obtain ⟨rfl, hst, hq, hv⟩ := hcut
                                clear HST HQ HV c0 c1 c2 c3 c4 c5 c6 c7
                                have HST := Lib.hid hst
                                have HQ := Lib.hid hq
                                have HV := Lib.hid hv
                                clear hst hq hv
                                obtain ⟨c0, c1, c2, c3, c4, c5, c6, c7⟩ := HCELLS.out _ HV.out
                                go_upto_region 32 with fail
                                go_cut [19] (fun s19 wx => s19 = .int .u32 (un32 A0) ∧ ISt w wx g cc kb p st.list ∧ Arr wx q 142 (wv ws) ∧ Arr wx vb 141 (wv (St.list ⟨a, b, c, d, e, f, h7, h8⟩)))
                                case first => as_aux_lemma =>
                                  go_quiet ((go_at_call 87; exact Calls.quiet_of_same (turnq _ _ _ (by decide))))
                                  go_wp2_with fail
                                  go_meet
                                  exact ⟨by rw [HA0.out, ← bigA_rotn], HST.out.drewN nq, HQ.out, HV.out⟩
                                case rest =>
                                  obtain ⟨rfl, hst, hq, hv⟩ := hcut
                                  clear HST HQ HV c0 c1 c2 c3 c4 c5 c6 c7
                                  have HST := Lib.hid hst
                                  have HQ := Lib.hid hq
                                  have HV := Lib.hid hv
                                  clear hst hq hv
                                  obtain ⟨c0, c1, c2, c3, c4, c5, c6, c7⟩ := HCELLS.out _ HV.out
                                  go_upto_region 33 with fail
                                  go_cut [20] (fun s20 wx => s20 = .int .u32 (un32 MJ) ∧ ISt w wx g cc kb p st.list ∧ Arr wx q 142 (wv ws) ∧ Arr wx vb 141 (wv (St.list ⟨a, b, c, d, e, f, h7, h8⟩)))
                                  case first => as_aux_lemma =>
                                    go_wp2_with fail
                                    go_meet
                                    exact ⟨by rw [HMJ.out]; first | rfl | (simp only [xor32, and32]; rfl), HST.out, HQ.out, HV.out⟩
                                  case rest =>
                                    obtain ⟨rfl, hst, hq, hv⟩ := hcut
                                    clear HST HQ HV c0 c1 c2 c3 c4 c5 c6 c7
                                    have HST := Lib.hid hst
                                    have HQ := Lib.hid hq
                                    have HV := Lib.hid hv
                                    clear hst hq hv
                                    obtain ⟨c0, c1, c2, c3, c4, c5, c6, c7⟩ := HCELLS.out _ HV.out
                                    go_upto_region 34 with fail
                                    obtain ⟨vs, hvs⟩ : ∃ vs, vs = (wv (St.list ⟨T1 + A0 + MJ, a, b, c, d + T1, e, f, h7⟩)).toArray := ⟨_, rfl⟩
                                    have hvz : (Try.prog.info? 141).map (·.size) = some vs.size := by rw [hvs, stSize]; exact info88
                                    have HVN := Lib.hid (show Arr (wc.setRow vb vs) vb 141 (wv (roundsAt ws st (x + 1)).list) by
                                      rw [← HN3.out, hvs]; exact HV.out.setRow _)
                                    have HSN := Lib.hid (HST.out.row vb vs HKV.out)
                                    have HQN := Lib.hid (HQ.out.setRow_other vb vs (by have := HQV.out; omega))
                                    have HVS := Lib.hid hvs
                                    have HVZ := Lib.hid hvz
                                    clear hvs hvz
                                    go_wp2_with (refine wpList_store_row rfl 141 (.tmp 14) (.tmp 252) rfl vb vs rfl (by rw [HVS.out]; rfl) 141 _ HV.out HVZ.out (by rw [HVS.out]; exact (stSize _).trans (stSize _).symm) (by rw [HVS.out]; exact all_oneCell_toArray (wv_one _)) ?_)
                                    go_roundg (64 - (x + 1))
                                    case measure => have := HKJ.out; have := HLJ.out; omega
                                    case rel => exact ⟨x + 1, HLJ.out, rfl, by go_num, HSN.out, HQN.out, HVN.out⟩
                        · obtain rfl : x = 64 := by omega
                          obtain ⟨v6, hv6⟩ : ∃ v6, v6 = roundsAt ws st 64 := ⟨_, rfl⟩
                          rw [← hv6] at hv HS
                          have HV := Lib.hid hv
                          clear hv hv6 hlt hx HQ HKJ
                          go_wp2_with fail
                          go_loopg [21] 8 (fun k s21 wr => ∃ x : Nat, x ≤ 8 ∧ k = 8 - x ∧ s21 = .int .i64 (x : Int) ∧ ISt w wr g cc kb p (mixL st.list v6.list x) ∧ Arr wr vb 141 (wv v6.list))
                          case atStart => exact ⟨0, by omega, by omega, rfl, by rw [mixL_zero]; exact HST.out, HV.out⟩
                          case round =>
                            obtain ⟨x, hx, hk, rfl, hst, hv⟩ := hrel
                            clear HST HV
                            have HKJ := Lib.hid hk
                            clear hk
                            by_cases hlt : x < 8
                            · as_aux_lemma =>
                                have cg := hst.a1.word (i := x) (by rw [mixL_length]; exact hlt)
                                have cv := hv.word (i := x) hlt
                                rw [mixL_at _ _ _ hlt] at cg
                                have cf := hst.a1.frozen x
                                have HNX := Lib.hid (mixL_succ st.list v6.list x hlt)
                                generalize wd st.list x = y0 at *
                                generalize wd v6.list x = y1 at *
                                have HST := Lib.hid hst
                                have HV := Lib.hid hv
                                have HLJ := Lib.hid hlt
                                have hi0 : (0 : Int) ≤ (x : Int) := by omega
                                have hi1 : (x : Int) < 8 := by omega
                                clear hst hv hx hlt
                                go_upto_region 38 with fail
                                go_region
                                all_goals
                                  go_wp2_with fail
                                  go_roundg (8 - (x + 1))
                                  case measure => have := HKJ.out; have := HLJ.out; omega
                                  case rel =>
                                    have hkv := HKV.out
                                    have hg1 := HST.out.g0
                                    have hg2 := HST.out.gk
                                    exact ⟨x + 1, HLJ.out, rfl, by go_num, by rw [← HNX.out]; exact (HST.out.add x (y0 + y1)).drew, (HV.out.set_other _ (by simp; omega) _)⟩
                            · obtain rfl : x = 8 := by omega
                              rw [mixL_done, HS.out] at hst
                              have HST := Lib.hid hst
                              clear hst hv hx hlt HKJ
                              go_wp2_with fail
                              go_roundg (N - (i + 1))
                              case measure => have := HKO.out; have := HLO.out; omega
                              case rel => exact ⟨i + 1, m + 64, HLO.out, rfl, by have := HMM.out; omega, by go_num, HST.out⟩
            · obtain rfl : i = N := by omega
              have hS : shaOf l = (stAt p i).list.flatMap be4 := by rw [shaOf, ← HPP.out, hN, Nat.mul_div_cancel_left _ (by omega)]
              have HSS := Lib.hid hS
              clear hS
              generalize stAt p i = st at *
              have h1 : (m : Int) = (p.length : Int) := by omega
              clear hst hk hN hlt hi hm
              go_upto_region 39 with fail
              obtain ⟨z33, hz33⟩ : ∃ z33, z33 = (bv (List.replicate 32 0)).toArray := ⟨_, rfl⟩
              obtain ⟨q, hq⟩ : ∃ q, q = wr.heap.size := ⟨_, rfl⟩
              refine wp_region_lit ?_
              refine Great.wpList_allocTo rfl _ rfl (.pointer (some ⟨q, 0, none⟩)) (.cells z33 86) ?x9 ?_
              case x9 => rw [hz33, hq]; kernel_rfl
              refine wpList_nil ?_
              rename_i hK
              refine hK _ _ ?_
              clear hK
              obtain ⟨f, hf⟩ : ∃ f, f = st.list.flatMap be4 := ⟨_, rfl⟩
              rw [← hf] at HSS
              have hkq : kb < q := by rw [hq]; exact HST.out.ak.lt
              have HST1 := Lib.hid (HST.out.alloc (.cells z33 86))
              have HQ1 := Lib.hid (show Arr (wr.alloc (.cells z33 86)) q 86 (bv (outB f 0)) by rw [hz33]; exact Arr.new_at _ _ (bv (List.replicate 32 0)) _ hq)
              have HKQ := Lib.hid hkq
              have HF := Lib.hid hf
              have HFL := Lib.hid (show f.length = 32 by rw [hf, flat_length])
              clear hz33 hq HST hkq hf h1
              generalize wr.alloc (.cells z33 86) = w5 at *
              go_wp2_with fail
              go_loopg [23] 32 (fun k s23 wr => ∃ x : Nat, x ≤ 32 ∧ k = 32 - x ∧ s23 = .int .i64 (x : Int) ∧ ISt w wr g cc kb p st.list ∧ Arr wr q 86 (bv (outB f x)))
              case atStart => exact ⟨0, by omega, by omega, rfl, HST1.out, HQ1.out⟩
              case round =>
                obtain ⟨x, hx, hk, rfl, hst, hq⟩ := hrel
                clear HST1 HQ1
                have HST := Lib.hid hst
                have HQ := Lib.hid hq
                have HKI := Lib.hid hk
                clear hk
                by_cases hlt : x < 32
                · as_aux_lemma =>
                    obtain ⟨a, ha⟩ : ∃ a, a = x / 4 := ⟨_, rfl⟩
                    obtain ⟨b, hb⟩ : ∃ b, b = x % 4 := ⟨_, rfl⟩
                    have hq4 : (x : Int) / 4 = (a : Int) := by omega
                    have hr4 : (x : Int) % 4 = (b : Int) := by omega
                    obtain ⟨y, hy⟩ : ∃ y : Int, 24 - 8 * (b : Int) = y := ⟨_, rfl⟩
                    have hy0 : 0 ≤ y := by omega
                    have hy1 : y ≤ 24 := by omega
                    have ha0 : (0 : Int) ≤ (a : Int) := by omega
                    have ha1 : (a : Int) < 8 := by omega
                    have hb0 : (0 : Int) ≤ (b : Int) := by omega
                    have hb1 : (b : Int) < 4 := by omega
                    have hx0 : (0 : Int) ≤ (x : Int) := by omega
                    have hx1 : (x : Int) < 32 := by omega
                    have ca := hst.a1.word (i := a) (by show a < 8; omega)
                    have hB : un32 (wd st.list a) / 2 ^ y.toNat % 256 = un8 (bt f x) := by
                      rw [show y.toNat = 24 - 8 * b by omega, HF.out, show x = 4 * a + b by omega]
                      exact out_byte st a b (by omega) (by omega)
                    obtain ⟨ux, cx⟩ : ∃ u, wr.cell? ⟨q, x, none⟩ = some u := ⟨_, hq.byte (i := x) (by rw [outB_length f x HFL.out hx]; exact hlt)⟩
                    have fx := hq.frozen x
                    have HSX := Lib.hid (outB_succ f x HFL.out hlt)
                    generalize wd st.list a = xa at *
                    generalize bt f x = bx at *
                    have HLI := Lib.hid hlt
                    clear ha hb hst hq hx hlt
                    go_wp2_with fail
                    go_roundg (32 - (x + 1))
                    case measure => have := HKI.out; have := HLI.out; omega
                    case rel =>
                      refine ⟨x + 1, HLI.out, rfl, by go_num, HST.out.set _ _ _ HKQ.out, ?_⟩
                      rw [← HSX.out, ← bv_set]
                      exact HQ.out.set _ _
                · obtain rfl : x = 32 := by omega
                  rw [outB_done f HFL.out] at HQ
                  obtain ⟨cs, hcs⟩ : ∃ cs, cs = (bv f).toArray := ⟨_, rfl⟩
                  have hsz8 : cs.size = 32 := by rw [hcs, List.size_toArray, bv_length, HFL.out]
                  have hcz : (Try.prog.info? 86).map (·.size) = some cs.size := by rw [hsz8]; exact info72
                  have HCS := Lib.hid hcs
                  have HS8 := Lib.hid hsz8
                  have HCZ := Lib.hid hcz
                  clear hcs hsz8 hcz hlt hx hst hq
                  go_upto_region 44 with fail
                  refine wp_region_lit ?_
                  refine wpList_load_row rfl 86 (.tmp 22) rfl q rfl 86 cs (0, 0) _ (by rw [HCS.out]; exact HQ.out) Try.underlying86 rfl HCZ.out ?_
                  refine wpList_store_row rfl 86 (.tmp 2) (.tmp 283) rfl w.heap.size cs rfl rfl 86 (bv (List.replicate 32 0)).toArray HST.out.a0 HCZ.out (by rw [HS8.out]; rfl) (by rw [HCS.out]; exact all_oneCell_toArray (bv_one _)) ?_
                  refine wpList_nil ?_
                  rename_i hK
                  refine hK _ _ ?_
                  apply wp_ret
                  refine bodyPost_ret (v := .agg cs) ?_ rfl ?_
                  case refine_2 => exact ⟨by rw [HCS.out, HSS.out], below_setRow HST.out.b _ _ (Nat.le_refl _)⟩
                  exact results_cell_row rfl _ _ w.heap.size 86 cs (0, 0) _ rfl (setRow_heap _ _ _ _ _ _ HST.out.a0) Try.underlying86 rfl HCZ.out

end
end Go.Proofs.Ytjakhemolecbnaa
end
