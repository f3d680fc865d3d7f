/-
  The texts RefSha, RefNext, RefEq, RefPrefix, OutlineM, ChainLinks, RefMake, RefCheck, RefEnc, RefEnc2 of this proof in one: what each proves is said at its head. No conditions beyond those that each theorem says.
-/
import Derived.Test.YtjakhemolecbnaaMB
import Derived.Test.YtjakhemolecbnaaMC
import Derived.Test.YtjakhemolecbnaaMA

/-
  The walk of the reference's Sha.
-/
section
set_option linter.unusedVariables false
set_option linter.unusedSimpArgs false
namespace Go.Proofs.Ytjakhemolecbnaa
open Go.RowKit

def rotn (x : UInt32) (z : Int) : UInt32 := rotr x z.toNat
theorem turnq (x : UInt32) (z : Int) (w : World) (hz : z = 7 ∨ z = 18 ∨ z = 17 ∨ z = 19 ∨ z = 6 ∨ z = 11 ∨ z = 25 ∨ z = 2 ∨ z = 13 ∨ z = 22) : Calls Try.prog 87 #[.int .u32 (un32 x), .int .u64 z] w fun e w' => e = .returned (.int .u32 (un32 (rotn x z))) ∧ w' = w := by
  rcases hz with rfl | rfl | rfl | rfl | rfl | rfl | rfl | rfl | rfl | rfl
  · exact (turn_7 x w).mono fun _ _ h => ⟨h.1, h.2.symm⟩
  · exact (turn_18 x w).mono fun _ _ h => ⟨h.1, h.2.symm⟩
  · exact (turn_17 x w).mono fun _ _ h => ⟨h.1, h.2.symm⟩
  · exact (turn_19 x w).mono fun _ _ h => ⟨h.1, h.2.symm⟩
  · exact (turn_6 x w).mono fun _ _ h => ⟨h.1, h.2.symm⟩
  · exact (turn_11 x w).mono fun _ _ h => ⟨h.1, h.2.symm⟩
  · exact (turn_25 x w).mono fun _ _ h => ⟨h.1, h.2.symm⟩
  · exact (turn_2 x w).mono fun _ _ h => ⟨h.1, h.2.symm⟩
  · exact (turn_13 x w).mono fun _ _ h => ⟨h.1, h.2.symm⟩
  · exact (turn_22 x w).mono fun _ _ h => ⟨h.1, h.2.symm⟩

theorem info89 : (Try.prog.info? 142).map (·.size) = some 64 := by kernel_rfl
set_option maxRecDepth 100000 in
set_option maxHeartbeats 1000000 in
theorem constants_any (w : World) : Calls Try.prog 86 #[] w fun e w' => e = .returned (.agg (wv shaK).toArray) ∧ Below w.heap.size w w' := by
  go_enter Try.func86, Try.ntmps86
  obtain ⟨ks, hks⟩ : ∃ ks, ks = (wv shaK).toArray := ⟨_, rfl⟩
  obtain ⟨zs, hzs⟩ : ∃ zs, zs = (wv (List.replicate 64 0)).toArray := ⟨_, rfl⟩
  have hkz : (Try.prog.info? 142).map (·.size) = some ks.size := by rw [hks]; exact info89
  go_upto_region 0 with fail
  refine wp_region_lit ?_
  refine Great.wpList_allocTo rfl _ rfl (.pointer (some ⟨w.heap.size, 0, none⟩)) (.cells zs 142) ?x1 ?_
  case x1 => rw [hzs]; kernel_rfl
  refine wpList_nil ?_
  rename_i hK
  refine hK _ _ ?_
  clear hK
  go_upto_region 1 with fail
  refine wp_region_lit ?_
  refine Great.wpList_readTo rfl _ rfl (.agg ks) ?x0 ?_
  case x0 => rw [hks]; kernel_rfl
  refine wpList_store_row rfl 142 (.tmp 0) (.tmp 1) rfl w.heap.size ks rfl rfl 142 zs (heap_alloc_new w _) hkz (by rw [hzs, hks]; rfl) (by rw [hks]; exact all_oneCell_toArray (wv_one _)) ?_
  refine wpList_nil ?_
  rename_i hK
  refine hK _ _ ?_
  apply wp_ret
  refine bodyPost_ret (v := .agg ks) ?_ rfl ?_
  case refine_2 => exact ⟨by rw [hks], below_setRow ((Below.refl _ _).alloc (Nat.le_refl _) _) _ _ (Nat.le_refl _)⟩
  exact results_cell_row rfl _ _ w.heap.size 142 ks (0, 0) _ rfl (setRow_heap _ _ _ _ _ _ (heap_alloc_new w _)) Try.underlying142 rfl hkz

theorem bt_flat (st : St) (a : Nat) (ha : a < 8) : bt (st.list.flatMap be4) (4 * a) = b24 (wd st.list a) ∧ bt (st.list.flatMap be4) (4 * a + 1) = b16 (wd st.list a) ∧ bt (st.list.flatMap be4) (4 * a + 2) = b08 (wd st.list a) ∧ bt (st.list.flatMap be4) (4 * a + 3) = b00 (wd st.list a) := by
  have h : a = 0 ∨ a = 1 ∨ a = 2 ∨ a = 3 ∨ a = 4 ∨ a = 5 ∨ a = 6 ∨ a = 7 := by omega
  rcases h with rfl | rfl | rfl | rfl | rfl | rfl | rfl | rfl <;> exact ⟨rfl, rfl, rfl, rfl⟩
theorem out_byte (st : St) (a b : Nat) (ha : a < 8) (hb : b < 4) : un32 (wd st.list a) / 2 ^ (24 - 8 * b) % 256 = un8 (bt (st.list.flatMap be4) (4 * a + b)) := by
  obtain ⟨h0, h1, h2, h3⟩ := bt_flat st a ha
  have h : b = 0 ∨ b = 1 ∨ b = 2 ∨ b = 3 := by omega
  rcases h with rfl | rfl | rfl | rfl
  · rw [show 4 * a + 0 = 4 * a from rfl, h0]; exact cut24 _
  · rw [h1]; exact cut16 _
  · rw [h2]; exact cut08 _
  · rw [h3, show (2 : Int) ^ (24 - 8 * 3) = 1 from rfl, Int.ediv_one]; exact cut00 _
/-- What is written when x bytes are. -/
def outB (f : List UInt8) (x : Nat) : List UInt8 := f.take x ++ List.replicate (32 - x) 0
theorem outB_length (f : List UInt8) (x : Nat) (hf : f.length = 32) (h : x ≤ 32) : (outB f x).length = 32 := by simp [outB, hf]; omega
theorem outB_done (f : List UInt8) (hf : f.length = 32) : outB f 32 = f := by rw [outB, List.take_of_length_le (by omega)]; simp
theorem outB_succ (f : List UInt8) (x : Nat) (hf : f.length = 32) (h : x < 32) : (outB f x).set x (bt f x) = outB f (x + 1) := by
  unfold outB
  rw [List.set_append_right _ _ (by rw [List.length_take]; omega), List.length_take, Nat.min_eq_left (by omega), Nat.sub_self, show 32 - x = (32 - (x + 1)) + 1 by omega, List.replicate_succ,
    List.take_succ_eq_append_getElem (by omega : x < f.length), bt_get f x (by omega), List.set_cons_zero, List.append_assoc]
  rfl
theorem flat_length (st : St) : (st.list.flatMap be4).length = 32 := by simp [St.list, be4]
/-- A round as the reference adds it up. -/
def rnd2 (s : St) (k w : UInt32) : St := ⟨t1Of s k w + bigA s.a + major s.a s.b s.c, s.a, s.b, s.c, s.d + t1Of s k w, s.e, s.f, s.g⟩
theorem bigE_rotn (e : UInt32) : rotn e 6 ^^^ rotn e 11 ^^^ rotn e 25 = bigE e := rfl
theorem bigA_rotn (e : UInt32) : rotn e 2 ^^^ rotn e 13 ^^^ rotn e 22 = bigA e := rfl
theorem rnd2_eq (s : St) (k w : UInt32) : rnd2 s k w = rnd s k w := by simp only [rnd2, rnd, t2Of, UInt32.add_assoc]
/-- The memory of the reference's Sha, behind its constants. -/
structure ISt (w wr : World) (g cc kb : Nat) (p : List UInt8) (hs : List UInt32) : Prop where
  a0 : Arr wr w.heap.size 86 (bv (List.replicate 32 0))
  a1 : Arr wr (w.heap.size + 1) 141 (wv hs)
  own : wr.ownsRow (w.heap.size + 2) 5 1 (.slice (some ⟨g, 0, none⟩) p.length cc) p.length (bv p)
  ak : Arr wr kb 142 (wv shaK)
  b : Below w.heap.size w wr
  g0 : w.heap.size + 2 ≤ g
  gk : g < kb
section
variable {w wr : World} {g cc kb : Nat} {p : List UInt8} {hs : List UInt32}
theorem ISt.drewN (h : ISt w wr g cc kb p hs) (n : Nat) : ISt w (wr.drewN n) g cc kb p hs :=
  ⟨h.a0, h.a1, own_upd h.own (Upd.drewN (Upd.refl (fun _ => False) _) n) (fun _ _ => id), h.ak, (Upd.drewN (Upd.of_below (F := fun k => w.heap.size ≤ k) h.b) n).to_below (Nat.le_refl _) (fun k hk => by omega), h.g0, h.gk⟩
theorem ISt.drew (h : ISt w wr g cc kb p hs) : ISt w wr.drew g cc kb p hs :=
  ⟨h.a0, h.a1, own_upd h.own (Upd.drew (Upd.refl (fun _ => False) _)) (fun _ _ => id), h.ak, h.b.drew, h.g0, h.gk⟩
theorem ISt.alloc (h : ISt w wr g cc kb p hs) (o : Obj) : ISt w (wr.alloc o) g cc kb p hs :=
  ⟨h.a0.alloc _, h.a1.alloc _, h.own.alloc _, h.ak.alloc _, h.b.alloc h.b.size _, h.g0, h.gk⟩
theorem ISt.set (h : ISt w wr g cc kb p hs) (q i : Nat) (v : Value) (hq : kb < q) : ISt w (wr.setCell ⟨q, i, none⟩ v) g cc kb p hs := by
  have := h.g0
  have := h.gk
  exact ⟨h.a0.set_other _ (by simp; omega) _, h.a1.set_other _ (by simp; omega) _,
    own_upd h.own (Upd.setCell (F := fun k => k = q) (Upd.refl _ _) (fun _ => rfl) v) (fun k hk => by simp [Value.ownBlock] at hk; omega),
    h.ak.set_other _ (by simp; omega) _, h.b.setCell (by simp; omega) _, h.g0, h.gk⟩
theorem ISt.row (h : ISt w wr g cc kb p hs) (q : Nat) (cs : Array Value) (hq : kb < q) : ISt w (wr.setRow q cs) g cc kb p hs := by
  have := h.g0
  have := h.gk
  exact ⟨h.a0.setRow_other _ _ (by omega), h.a1.setRow_other _ _ (by omega),
    own_upd h.own (upd_setRow (F := fun k => k = q) (Upd.refl _ _) q cs (fun _ => rfl)) (fun k hk => by simp [Value.ownBlock] at hk; omega),
    h.ak.setRow_other _ _ (by omega), below_setRow h.b _ _ (by omega), h.g0, h.gk⟩
theorem ISt.add (h : ISt w wr g cc kb p hs) (i : Nat) (x : UInt32) : ISt w (wr.setCell ⟨w.heap.size + 1, i, none⟩ (.int .u32 (un32 x))) g cc kb p (hs.set i x) := by
  have := h.g0
  have := h.gk
  exact ⟨h.a0.set_other _ (by simp) _, by rw [← wv_set]; exact h.a1.set _ _,
    own_upd h.own (Upd.setCell (F := fun k => k = w.heap.size + 1) (Upd.refl _ _) (fun _ => rfl) _) (fun k hk => by simp [Value.ownBlock] at hk; omega),
    h.ak.set_other _ (by simp; omega) _, h.b.setCell (by simp) _, h.g0, h.gk⟩
end

section
attribute [local go_sem] un8_mod32 or32 shl24 shl16 shl8 xor32 and32 shr3 shr10 add32 ones32
set_option maxRecDepth 100000 in
set_option maxHeartbeats 100000000 in
theorem refSha_any (A : Option Addr) (n c : Nat) (l : List UInt8) (w : World) (hl : l.length = n) (hn : n ≤ 100000000) (hr : RB w A l) :
    Calls Try.prog 75 #[.slice A n c] w fun e w' => e = .returned (.agg (bv (shaOf l)).toArray) ∧ Below w.heap.size w w' := by
  subst hl
  have HR := Lib.hid hr
  clear hr
  go_enter Try.func75, Try.ntmps75
  obtain ⟨z32, hz32⟩ : ∃ z32, z32 = (bv (List.replicate 32 0)).toArray := ⟨_, rfl⟩
  obtain ⟨z8, hz8⟩ : ∃ z8, z8 = (wv (List.replicate 8 0)).toArray := ⟨_, rfl⟩
  obtain ⟨s8, hs8⟩ : ∃ s8, s8 = (wv h0.list).toArray := ⟨_, rfl⟩
  have hkz : (Try.prog.info? 141).map (·.size) = some s8.size := by rw [hs8, stSize]; exact info88
  go_upto_region 0 with fail
  refine wp_region_lit ?_
  refine Great.wpList_allocTo rfl _ rfl (.pointer (some ⟨w.heap.size, 0, none⟩)) (.cells z32 86) ?x1 ?_
  case x1 => rw [hz32]; kernel_rfl
  refine wpList_nil ?_
  rename_i hK
  refine hK _ _ ?_
  clear hK
  obtain ⟨w1, hw1⟩ : ∃ w1, w1 = w.alloc (.cells z32 86) := ⟨_, rfl⟩
  rw [← hw1]
  have hs1 : w1.heap.size = w.heap.size + 1 := by rw [hw1]; simp
  have hA0 : Arr w1 w.heap.size 86 (bv (List.replicate 32 0)) := by rw [hw1, hz32]; exact Arr.new _ _ _
  have hB1 : Below w.heap.size w w1 := by rw [hw1]; exact (Below.refl _ _).alloc (Nat.le_refl _) _
  clear hw1 hz32
  have HA0 := Lib.hid hA0
  have HB1 := Lib.hid hB1
  have HS1 := Lib.hid hs1
  have HKZ := Lib.hid hkz
  clear hA0 hB1 hs1 hkz
  go_upto_region 1 with fail
  refine wp_region_lit ?_
  refine Great.wpList_readTo rfl _ rfl (.agg s8) ?x2 ?_
  case x2 => rw [hs8]; kernel_rfl
  refine Great.wpList_allocTo rfl _ rfl (.pointer (some ⟨w.heap.size + 1, 0, none⟩)) (.cells z8 141) ?x3 ?_
  case x3 => rw [hz8, ← HS1.out]; kernel_rfl
  refine wpList_store_row rfl 141 (.tmp 3) (.tmp 24) rfl (w.heap.size + 1) s8 rfl rfl 141 z8 (by rw [hz8]; exact Arr.new_at _ _ _ _ HS1.out.symm) HKZ.out (by rw [hz8, hs8]; rfl) (by rw [hs8]; exact all_oneCell_toArray (wv_one _)) ?_
  refine wpList_nil ?_
  rename_i hK
  refine hK _ _ ?_
  clear hK
  obtain ⟨w2, hw2⟩ : ∃ w2, w2 = (w1.alloc (.cells z8 141)).setRow (w.heap.size + 1) s8 := ⟨_, rfl⟩
  rw [← hw2]
  have hs1 := HS1.out
  have hs2 : w2.heap.size = w.heap.size + 2 := by rw [hw2]; simp [hs1]
  have hA0 : Arr w2 w.heap.size 86 (bv (List.replicate 32 0)) := by rw [hw2]; exact (HA0.out.alloc _).setRow_other _ _ (by omega)
  have hA1 : Arr w2 (w.heap.size + 1) 141 (wv h0.list) := by rw [hw2, hs8, hz8]; exact Arr.setRow (Arr.new_at _ _ (wv (List.replicate 8 0)) _ hs1.symm) _
  have hB2 : Below w.heap.size w w2 := by rw [hw2]; exact below_setRow (HB1.out.alloc HB1.out.size _) _ _ (by omega)
  clear hw2 hz8 hs8 HA0 HB1 HS1 HKZ hs1
  have HA0 := Lib.hid hA0
  have HA1 := Lib.hid hA1
  have HB2 := Lib.hid hB2
  have HS2 := Lib.hid hs2
  clear hA0 hA1 hB2 hs2
  have HR2 := Lib.hid (HR.out.below HB2.out)
  clear HR
  go_wp2_with (at_builtin; refine append_bytes rfl _ _ 25 rfl w2.heap.size 5 Try.underlying25 info8 _ [] rfl (World.ownsRow_lit w2 #[] 0 (Nat.le_refl _) (by simp [maxLen]) rfl) _ _ _ l rfl rfl (HR2.out.below ((Below.refl _ _).alloc (Nat.le_refl _) _)) ?c1 ?c2 ?_)
  case c1 => simp; omega
  case c2 => simp
  intro v wa ho hg hat
  have ho' : wa.ownsRow w2.heap.size 5 1 v l.length (bv l) := by simpa using ho
  have HO := Lib.hid ho'
  have hb1 : Below w2.heap.size w2 wa := ((Below.refl _ _).alloc (Nat.le_refl _) _).grown hg (by simp) (fun k hk => by simp [Value.ownBlock] at hk; omega)
  have HB := Lib.hid hb1
  clear hb1
  clear ho ho' hg hat
  go_wp2_with (at_builtin; refine append_bytes rfl _ _ 25 rfl w2.heap.size 5 Try.underlying25 info8 _ l rfl (HO.out.alloc _) _ 1 _ [128] rfl rfl (RB_new wa [128] 5) ?c1 ?c2 ?_)
  case c1 => omega
  case c2 => have := HB.out.size; simp; omega
  intro v2 wb ho2 hg2 hat2
  have ho2' : wb.ownsRow w2.heap.size 5 1 v2 (padA l 0).length (bv (padA l 0)) := by rw [padA_zero, List.length_append]; exact ho2
  have HO2 := Lib.hid ho2'
  have hbb : Below w2.heap.size w2 wb := (HB.out.alloc HB.out.size _).grown hg2 (by have := HB.out.size; simp; omega) (fun k hk => (World.ownsRow.lt HO.out k hk).1)
  have HBB := Lib.hid hbb
  clear ho2 ho2' hg2 hat2 hbb HO HB
  go_wp2_with fail
  go_loopg [4] (padZ l.length) (fun k s4 wr => ∃ j : Nat, j ≤ padZ l.length ∧ k = padZ l.length - j ∧ wr.ownsRow w2.heap.size 5 1 s4 (padA l j).length (bv (padA l j)) ∧ Below w2.heap.size w2 wr)
  case atStart => exact ⟨0, Nat.zero_le _, by omega, HO2.out, HBB.out⟩
  case round =>
    obtain ⟨j, hj, hk, hown, hb⟩ := hrel
    have hp64 := padZ_lt l.length
    clear HO2 HBB hp64
    obtain ⟨A3, c3, rfl, _⟩ := own_slice hown
    by_cases hlt : j < padZ l.length
    · have hne : (((padA l j).length : Int) % 64 != 56) = true := by
        rw [padA_length, bne_iff_ne]; have := padZ_not l.length j hlt; omega
      have hlen : (padA l j).length ≤ 100000065 := by rw [padA_length]; have := padZ_lt l.length; omega
      have HK := Lib.hid hk
      have HO := Lib.hid hown
      have HB := Lib.hid hb
      have HLT := Lib.hid hlt
      clear hk hown hb hlt
      go_wp2_with (at_builtin; refine append_bytes rfl _ _ 25 rfl w2.heap.size 5 Try.underlying25 info8 _ (padA l j) rfl (HO.out.alloc _) _ 1 _ [0] rfl rfl (RB_new wr [0] 5) ?c1 ?c2 ?_)
      case c1 => omega
      case c2 => have := HB.out.size; simp; omega
      intro v3 wc ho3 hg3 _
      have hb3 : Below w2.heap.size w2 wc := (HB.out.alloc HB.out.size _).grown hg3 (by have := HB.out.size; simp; omega) (fun k hk => (World.ownsRow.lt HO.out k hk).1)
      have HO3 := Lib.hid ho3
      have HB3 := Lib.hid hb3
      clear ho3 hg3 hb3
      go_wp2_with fail
      go_roundg (padZ l.length - (j + 1))
      case measure => have := HK.out; have := HLT.out; omega
      case rel =>
        refine ⟨j + 1, HLT.out, rfl, ?_, HB3.out⟩
        rw [padA_snoc, List.length_append]; exact HO3.out
    · obtain rfl : j = padZ l.length := by omega
      have heq : (((padA l (padZ l.length)).length : Int) % 64 != 56) = false := by
        rw [padA_length, bne_eq_false_iff_eq]; have := padZ_done l.length; omega
      have hlen : (padA l (padZ l.length)).length ≤ 100000065 := by rw [padA_length]; have := padZ_lt l.length; omega
      have HP := Lib.hid (padOf_eq l)
      generalize padA l (padZ l.length) = la at *
      have HO := Lib.hid hown
      have HB := Lib.hid hb
      clear hown hb hk hj hlt
      have hu := u64_len l.length hn
      go_wp2_with fail
      go_loopg [4, 6] 9 (fun k s4 s6 wr => ∃ i : Nat, i ≤ 8 ∧ k = 9 - i ∧ (∃ z : Int, z = 7 - (i : Int) ∧ s6 = .int .i64 z) ∧ wr.ownsRow w2.heap.size 5 1 s4 (la ++ lenBytes (l.length * 8) i).length (bv (la ++ lenBytes (l.length * 8) i)) ∧ Below w2.heap.size w2 wr)
      case atStart => exact ⟨0, Nat.zero_le _, by omega, ⟨7, by omega, rfl⟩, by rw [show lenBytes (l.length * 8) 0 = [] from rfl, List.append_nil]; exact HO.out, HB.out⟩
      case round =>
        obtain ⟨i, hi, hk, ⟨z, hz, rfl⟩, hown, hb⟩ := hrel
        clear HO HB
        have hlb : (lenBytes (l.length * 8) i).length = i := lenBytes_length _ _
        have HK := Lib.hid hk
        have HO := Lib.hid hown
        have HB := Lib.hid hb
        clear hk hown hb
        by_cases hlt : i < 8
        · have hz0 : 0 ≤ z := by omega
          have hz1 : z ≤ 7 := by omega
          obtain ⟨y, hy⟩ : ∃ y : Int, 8 * z = y := ⟨_, rfl⟩
          have hy0 : 0 ≤ y := by omega
          have hy1 : y ≤ 56 := by omega
          have hB : (l.length : Int) * 8 / 2 ^ y.toNat % 256 = un8 (byteAt (l.length * 8) (56 - 8 * i)) := by
            rw [byteAt_un8, show y.toNat = 56 - 8 * i by omega, Int.natCast_emod, Int.natCast_ediv, Int.natCast_pow, Int.natCast_mul]
            rfl
          have HS := Lib.hid (lenBytes_snoc (l.length * 8) i)
          have HZ := Lib.hid hz
          have HLT := Lib.hid hlt
          have HI := Lib.hid hi
          clear hz hlt hi
          generalize lenBytes (l.length * 8) i = lb at *
          generalize byteAt (l.length * 8) (56 - 8 * i) = bb at *
          have HLB := Lib.hid hlb
          go_wp2_with (at_builtin; refine append_bytes rfl _ _ 25 rfl w2.heap.size 5 Try.underlying25 info8 _ (la ++ lb) rfl (HO.out.alloc _) _ 1 _ [bb] rfl rfl (RB_new wr [bb] 5) ?c1 ?c2 ?_)
          case c1 => have := HI.out; simp; omega
          case c2 => have := HB.out.size; simp; omega
          intro v3 wc ho3 hg3 _
          have hb3 : Below w2.heap.size w2 wc := (HB.out.alloc HB.out.size _).grown hg3 (by have := HB.out.size; simp; omega) (fun k hk => (World.ownsRow.lt HO.out k hk).1)
          have HO3 := Lib.hid ho3
          have HB3 := Lib.hid hb3
          clear ho3 hg3 hb3
          go_wp2_with fail
          go_roundg (9 - (i + 1))
          case measure => have := HK.out; have := HLT.out; omega
          case rel =>
            refine ⟨i + 1, HLT.out, rfl, ⟨_, ?_, rfl⟩, ?_, HB3.out⟩
            · have := HZ.out; omega
            · have := HLB.out; rw [HS.out, show (la ++ (lb ++ [bb])).length = la.length + i + 1 by simp; omega]; exact HO3.out
        · obtain rfl : i = 8 := by omega
          obtain rfl : z = -1 := by omega
          rw [← HP.out] at HO
          clear hlb HP
          obtain ⟨p, hp⟩ : ∃ p, p = padOf l := ⟨_, rfl⟩
          rw [← hp] at HO
          have HN := Lib.hid (padOf_length l)
          have HM := Lib.hid (padOf_mod l)
          rw [← hp] at HN HM
          have HPP := Lib.hid hp
          clear hp
          obtain ⟨g, cc, rfl, hbg, hcc⟩ := own_form HO.out (by have := HN.out; omega)
          have hbg' : w.heap.size + 2 ≤ g := by have := HS2.out; omega
          clear hbg
          go_wp2_with fail
          refine (constants_any wr).mono ?_
          rintro e w3 ⟨rfl, hb3⟩
          obtain ⟨ks, hks⟩ : ∃ ks, ks = (wv shaK).toArray := ⟨_, rfl⟩
          obtain ⟨zs, hzs⟩ : ∃ zs, zs = (wv (List.replicate 64 0)).toArray := ⟨_, rfl⟩
          rw [← hks]
          have hkz : (Try.prog.info? 142).map (·.size) = some ks.size := by rw [hks]; exact info89
          have HKS := Lib.hid hks
          have HZS := Lib.hid hzs
          have HKZ := Lib.hid hkz
          have hW3 : ISt w ((w3.alloc (.cells zs 142)).setRow w3.heap.size ks) g cc w3.heap.size p h0.list := by
            have hs2 := HS2.out
            have hz2 := HB.out.size
            have hz3 := hb3.size
            have e0 := (HA0.out.below HB.out (by omega)).below hb3 (by omega)
            have e1 := (HA1.out.below HB.out (by omega)).below hb3 (by omega)
            have e2 := own_below HO.out hb3
            have hgl : g < w3.heap.size := by
              have := (World.ownsRow.lt e2 g rfl).2
              omega
            rw [hs2] at e2
            exact ⟨(e0.alloc _).setRow_other _ _ (by omega), (e1.alloc _).setRow_other _ _ (by omega),
              own_upd (e2.alloc _) (upd_setRow (F := fun k => k = w3.heap.size) (Upd.refl _ _) _ ks (fun _ => rfl)) (fun k hk => by simp [Value.ownBlock] at hk; omega),
              by rw [hks, hzs]; exact (Arr.new w3 _ (wv (List.replicate 64 0))).setRow _,
              below_setRow ((below_below HB2.out HB2.out.size (below_below HB.out HB.out.size hb3)).alloc (by omega) _) _ _ (by omega), hbg', hgl⟩
          clear hks hzs hkz hb3 HA0 HA1 HB HO
          have HI3 := Lib.hid hW3
          clear hW3
          go_upto_region 11 with (first
            | refine Great.wpList_allocTo rfl (some 7) rfl (.pointer (some ⟨w3.heap.size, 0, none⟩)) (.cells zs 142) (by rw [HZS.out]; kernel_rfl) ?_
            | refine wpList_store_row rfl 142 (.tmp 7) (.tmp 54) rfl w3.heap.size ks rfl rfl 142 zs (heap_alloc_new w3 _) HKZ.out (by rw [HZS.out, HKS.out]; rfl) (by rw [HKS.out]; exact all_oneCell_toArray (wv_one _)) ?_)
          generalize (w3.alloc (.cells zs 142)).setRow w3.heap.size ks = w4 at *
          generalize w3.heap.size = kb at *
          have hlen2 : p.length ≤ 100000100 := by have := HN.out; have := padZ_lt l.length; omega
          obtain ⟨N, hN⟩ : ∃ N, p.length = 64 * N := ⟨p.length / 64, by have := HM.out; omega⟩
          have HNN := Lib.hid hN
          clear hN heq hu
          go_wp2_with fail
          go_loopg [8] N (fun k s8 wr => ∃ i m : Nat, i ≤ N ∧ k = N - i ∧ m = 64 * i ∧ s8 = .int .i64 (m : Int) ∧ ISt w wr g cc kb p (stAt p i).list)
          case atStart => exact ⟨0, 0, by omega, by omega, rfl, rfl, HI3.out⟩
          case round =>
            obtain ⟨i, m, hi, hk, hm, rfl, hst⟩ := hrel
            clear HI3
            have HST := Lib.hid hst
            have HKO := Lib.hid hk
            have hN := HNN.out
            by_cases hlt : i < N
            · have hm1 : (m : Int) + 64 ≤ (p.length : Int) := by omega
              have hm2 : (0 : Int) ≤ (m : Int) := by omega
              have HLO := Lib.hid hlt
              have HMM := Lib.hid hm
              clear hst hk hN hlt hm hi
              go_upto_region 14 with fail
              refine wp_region_lit ?_
              obtain ⟨q, hq⟩ : ∃ q, q = wr.heap.size := ⟨_, rfl⟩
              refine Great.wpList_allocTo rfl _ rfl (.pointer (some ⟨q, 0, none⟩)) (.cells zs 142) ?x7 ?_
              case x7 => rw [HZS.out, hq]; kernel_rfl
              refine wpList_nil ?_
              rename_i hK
              refine hK _ _ ?_
              clear hK
              have hkq : kb < q := by rw [hq]; exact HST.out.ak.lt
              have HST1 := Lib.hid (HST.out.alloc (.cells zs 142))
              have HQ := Lib.hid (show Arr (wr.alloc (.cells zs 142)) q 142 (wv (schedZ ((p.drop m).take 64) 0)) by rw [HZS.out]; exact Arr.new_at _ _ (wv (List.replicate 64 0)) _ hq)
              have HKQ := Lib.hid hkq
              clear hq HST hkq
              generalize wr.alloc (.cells zs 142) = w5 at *
              have HS := Lib.hid (show compress (stAt p i) ((p.drop m).take 64) = stAt p (i + 1) by rw [HMM.out]; rfl)
              unfold compress at HS
              have HBL := Lib.hid (show ∀ j, j < 64 → bt ((p.drop m).take 64) j = bt p (m + j) by
                intro j hj
                simp [bt, List.getD_eq_getElem?_getD, List.getElem?_take, hj])
              generalize (p.drop m).take 64 = blk at *
              generalize hsi : stAt p i = st at *
              clear hsi
              go_wp2_with fail
              go_loopg [10] 16 (fun k s10 wr => ∃ j : Nat, j ≤ 16 ∧ k = 16 - j ∧ s10 = .int .i64 (j : Int) ∧ ISt w wr g cc kb p st.list ∧ Arr wr q 142 (wv (schedZ blk j)))
              case atStart => exact ⟨0, by omega, by omega, rfl, HST1.out, HQ.out⟩
              case round =>
                obtain ⟨j, hj, hk, rfl, hst, hq⟩ := hrel
                clear HST1 HQ
                have HST := Lib.hid hst
                have HQ := Lib.hid hq
                have HKI := Lib.hid hk
                clear hst hq hk
                by_cases hlt : j < 16
                · as_aux_lemma =>
                    obtain ⟨k, hk⟩ : ∃ k : Nat, k = m + 4 * j := ⟨_, rfl⟩
                    have hbd : k + 3 < p.length := by omega
                    have hcc : ∀ x, x < p.length → wr.cell? ⟨g, x, none⟩ = some (.int .u8 (un8 (bt p x))) := by
                      intro x hx
                      rw [bt_get p x hx]
                      exact own_byte HST.out.own x hx
                    have c0 := hcc k (by omega)
                    have c1 := hcc (k + 1) (by omega)
                    have c2 := hcc (k + 2) (by omega)
                    have c3 := hcc (k + 3) (by omega)
                    have hk4 : (m : Int) + 4 * (j : Int) = (k : Int) := by omega
                    have hb1 : (k : Int) + 3 < (p.length : Int) := by omega
                    have hb2 : (0 : Int) ≤ (k : Int) := by omega
                    have hb3 : (0 : Int) ≤ (j : Int) := by omega
                    have hb4 : (j : Int) < 16 := by omega
                    have cw := HQ.out.word (i := j) (by rw [schedZ_length _ _ (by omega)]; omega)
                    have cf := HQ.out.frozen j
                    have HW := Lib.hid (show be32 blk (4 * j) = be32 p k by
                      unfold be32
                      rw [HBL.out _ (by omega), HBL.out _ (by omega), HBL.out _ (by omega), HBL.out _ (by omega), hk]
                      rfl)
                    have HLI := Lib.hid hlt
                    clear hcc hbd hk hlt hj
                    go_upto_region 18 with fail
                    go_region
                    all_goals
                      go_wp2_with fail
                      go_roundg (16 - (j + 1))
                      case measure => have := HKI.out; have := HLI.out; omega
                      case rel =>
                        have hlj := HLI.out
                        have hkq := HKQ.out
                        refine ⟨j + 1, HLI.out, rfl, by go_num, (HST.out.set _ _ _ hkq).drew, ?_⟩
                        have h2 := HQ.out.set j (W32 (be32 p k))
                        rw [show (wv (schedZ blk j)).set j (W32 (be32 p k)) = wv (schedZ blk (j + 1)) by
                          rw [schedZ_succ blk j (by omega) (be32 p k) (by rw [← HW.out]; exact sched_lo blk j (by omega)), ← wv_set]; rfl] at h2
                        exact h2
                · obtain rfl : j = 16 := by omega
                  clear hlt hj HKI
                  go_wp2_with fail
                  go_loopg [11, 12, 13] 48 (fun k s11 s12 s13 wr => ∃ d : Nat, d ≤ 48 ∧ k = 48 - d ∧ s11 = .int .i64 ((d : Int) + 16) ∧ ISt w wr g cc kb p st.list ∧ Arr wr q 142 (wv (schedZ blk (d + 16))))
                  case atStart => exact ⟨0, by omega, by omega, rfl, HST.out, HQ.out⟩
                  case round =>
                    obtain ⟨d, hd, hk, rfl, hst, hq⟩ := hrel
                    clear HST HQ
                    have HST := Lib.hid hst
                    have HQ := Lib.hid hq
                    have HKJ := Lib.hid hk
                    clear hst hq hk
                    by_cases hlt : d < 48
                    · as_aux_lemma =>
                        have hlen3 : (schedZ blk (d + 16)).length = 64 := schedZ_length _ _ (by omega)
                        have hw0 := HQ.out.word (i := d) (by omega)
                        have hw1 := HQ.out.word (i := d + 1) (by omega)
                        have hw9 := HQ.out.word (i := d + 9) (by omega)
                        have hw14 := HQ.out.word (i := d + 14) (by omega)
                        obtain ⟨u16, hw16⟩ : ∃ u, wr.cell? ⟨q, d + 16, none⟩ = some u := ⟨_, HQ.out.word (i := d + 16) (by omega)⟩
                        rw [schedZ_wd _ _ _ (by omega)] at hw0 hw1 hw9 hw14
                        have hfw := HQ.out.frozen (d + 16)
                        have HSS := Lib.hid (sched_hi blk (d + 16) (by omega))
                        rw [show d + 16 - 16 = d by omega, show d + 16 - 15 = d + 1 by omega, show d + 16 - 7 = d + 9 by omega, show d + 16 - 2 = d + 14 by omega] at HSS
                        have hb1 : (d : Int) < 48 := by omega
                        have hb2 : (0 : Int) ≤ (d : Int) := by omega
                        generalize wd (sched blk (d + 16)) d = x0 at *
                        generalize wd (sched blk (d + 16)) (d + 1) = x1 at *
                        generalize wd (sched blk (d + 16)) (d + 9) = x9 at *
                        generalize wd (sched blk (d + 16)) (d + 14) = x14 at *
                        have HLJ := Lib.hid hlt
                        clear hlen3 hlt hd
                        go_upto_region 22 with fail
                        go_quiet ((go_at_call 87; exact Calls.quiet_of_same (turnq _ _ _ (by decide))))
                        have HST1 := Lib.hid (HST.out.drewN nq)
                        have HQ1 := Lib.hid (show Arr (wr.drewN nq) q 142 (wv (schedZ blk (d + 16))) from HQ.out)
                        have hw0 : (wr.drewN nq).cell? _ = _ := hw0
                        have hw9 : (wr.drewN nq).cell? _ = _ := hw9
                        have hw14 : (wr.drewN nq).cell? _ = _ := hw14
                        have hw16 : (wr.drewN nq).cell? _ = _ := hw16
                        have hfw : (wr.drewN nq).frozen? _ = _ := hfw
                        clear HST HQ hw1
                        generalize wr.drewN nq = wq at *
                        go_upto_region 23 with fail
                        clear nq
                        go_quiet ((go_at_call 87; exact Calls.quiet_of_same (turnq _ _ _ (by decide))))
                        have HST := Lib.hid (HST1.out.drewN nq)
                        have HQ := Lib.hid (show Arr (wq.drewN nq) q 142 (wv (schedZ blk (d + 16))) from HQ1.out)
                        have hw0 : (wq.drewN nq).cell? _ = _ := hw0
                        have hw9 : (wq.drewN nq).cell? _ = _ := hw9
                        have hw16 : (wq.drewN nq).cell? _ = _ := hw16
                        have hfw : (wq.drewN nq).frozen? _ = _ := hfw
                        clear HST1 HQ1 hw14
                        generalize wq.drewN nq = wp at *
                        go_upto_region 24 with fail
                        go_region
                        all_goals
                          go_wp2_with fail
                          go_roundg (48 - (d + 1))
                          case measure => have := HKJ.out; have := HLJ.out; omega
                          case rel =>
                            have hlj := HLJ.out
                            refine ⟨d + 1, HLJ.out, rfl, by go_num, (HST.out.set _ _ _ HKQ.out).drew, ?_⟩
                            have h2 := HQ.out.set (d + 16) (W32 (x0 + sig0 x1 + x9 + sig1 x14))
                            rw [show (wv (schedZ blk (d + 16))).set (d + 16) (W32 (x0 + sig0 x1 + x9 + sig1 x14)) = wv (schedZ blk (d + 1 + 16)) by
                              rw [show d + 1 + 16 = d + 16 + 1 by omega, schedZ_succ blk (d + 16) (by omega) _ HSS.out, ← wv_set]; rfl] at h2
                            exact h2
                    · obtain rfl : d = 48 := by omega
                      rw [show 48 + 16 = 64 from rfl, schedZ_done] at HQ
                      obtain ⟨ws, hws⟩ : ∃ ws, ws = sched blk 64 := ⟨_, rfl⟩
                      rw [← hws] at HQ HS
                      have HWL := Lib.hid (show ws.length = 64 by rw [hws, sched_length])
                      clear hws HBL hlt hd HKJ
                      go_upto_region 25 with fail
                      refine wp_region_lit ?_
                      obtain ⟨vb, hvb⟩ : ∃ vb, vb = wr.heap.size := ⟨_, rfl⟩
                      obtain ⟨ss, hss⟩ : ∃ ss, ss = (wv st.list).toArray := ⟨_, rfl⟩
                      obtain ⟨z9, hz9⟩ : ∃ z9, z9 = (wv (List.replicate 8 0)).toArray := ⟨_, rfl⟩
                      have hsz : (Try.prog.info? 141).map (·.size) = some ss.size := by rw [hss, stSize]; exact info88
                      refine wpList_load_row rfl 141 (.tmp 3) rfl (w.heap.size + 1) rfl 141 ss (0, 0) _ (by rw [hss]; exact HST.out.a1) Try.underlying141 rfl hsz ?_
                      refine Great.wpList_allocTo rfl _ rfl (.pointer (some ⟨vb, 0, none⟩)) (.cells z9 141) ?x8 ?_
                      case x8 => rw [hz9, hvb]; kernel_rfl
                      refine wpList_store_row rfl 141 (.tmp 14) (.tmp 161) rfl vb ss rfl rfl 141 z9 (by rw [hvb]; exact heap_alloc_new wr _) hsz (by rw [hz9, hss]; rfl) (by rw [hss]; exact all_oneCell_toArray (wv_one _)) ?_
                      refine wpList_nil ?_
                      rename_i hK
                      refine hK _ _ ?_
                      clear hK
                      have hqv : q < vb := by rw [hvb]; exact HQ.out.lt
                      have hkv : kb < vb := by rw [hvb]; exact HST.out.ak.lt
                      have HST6 := Lib.hid ((HST.out.alloc (.cells z9 141)).row vb ss hkv)
                      have HQ6 := Lib.hid ((HQ.out.alloc (.cells z9 141)).setRow_other vb ss (by omega))
                      have HV6 := Lib.hid (show Arr ((wr.alloc (.cells z9 141)).setRow vb ss) vb 141 (wv (roundsAt ws st 0).list) by
                        rw [hss, hz9]; exact (Arr.new_at wr _ (wv (List.replicate 8 0)) _ hvb).setRow _)
                      have HQV := Lib.hid hqv
                      have HKV := Lib.hid hkv
                      clear hqv hkv hss hz9 hvb hsz HST HQ
                      generalize (wr.alloc (.cells z9 141)).setRow vb ss = w6 at *
                      go_wp2_with fail
                      go_loopg [15] 64 (fun k s15 wr => ∃ x : Nat, x ≤ 64 ∧ k = 64 - x ∧ s15 = .int .i64 (x : Int) ∧ ISt w wr g cc kb p st.list ∧ Arr wr q 142 (wv ws) ∧ Arr wr vb 141 (wv (roundsAt ws st x).list))
                      case atStart => exact ⟨0, by omega, by omega, rfl, HST6.out, HQ6.out, HV6.out⟩
                      case round =>
                        obtain ⟨x, hx, hk, rfl, hst, hq, hv⟩ := hrel
                        clear HST6 HQ6 HV6
                        have HST := Lib.hid hst
                        have HQ := Lib.hid hq
                        have HKJ := Lib.hid hk
                        clear hst hq hk
                        by_cases hlt : x < 64
                        · skip
                          have HN2 := Lib.hid (show rnd (roundsAt ws st x) (wd shaK x) (wd ws x) = roundsAt ws st (x + 1) from rfl)
                          have HV := Lib.hid hv
                          clear hv
                          generalize roundsAt ws st x = v6 at *
                          obtain ⟨a, b, c, d, e, f, h7, h8⟩ := v6
                          have hcells : ∀ wx, Arr wx vb 141 (wv (St.list ⟨a, b, c, d, e, f, h7, h8⟩)) →
                              wx.cell? ⟨vb, 0, none⟩ = some (.int .u32 (un32 a)) ∧ wx.cell? ⟨vb, 1, none⟩ = some (.int .u32 (un32 b)) ∧ wx.cell? ⟨vb, 2, none⟩ = some (.int .u32 (un32 c)) ∧
                              wx.cell? ⟨vb, 3, none⟩ = some (.int .u32 (un32 d)) ∧ wx.cell? ⟨vb, 4, none⟩ = some (.int .u32 (un32 e)) ∧ wx.cell? ⟨vb, 5, none⟩ = some (.int .u32 (un32 f)) ∧
                              wx.cell? ⟨vb, 6, none⟩ = some (.int .u32 (un32 h7)) ∧ wx.cell? ⟨vb, 7, none⟩ = some (.int .u32 (un32 h8)) := fun wx h =>
                            ⟨h.cell (i := 0) rfl, h.cell (i := 1) rfl, h.cell (i := 2) rfl, h.cell (i := 3) rfl, h.cell (i := 4) rfl, h.cell (i := 5) rfl, h.cell (i := 6) rfl, h.cell (i := 7) rfl⟩
                          have HCELLS := Lib.hid hcells
                          clear hcells
                          obtain ⟨c0, c1, c2, c3, c4, c5, c6, c7⟩ := HCELLS.out _ HV.out
                          obtain ⟨kw, hkw⟩ : ∃ kw, kw = wd shaK x := ⟨_, rfl⟩
                          obtain ⟨ww, hww⟩ : ∃ ww, ww = wd ws x := ⟨_, rfl⟩
                          rw [← hkw, ← hww] at HN2
                          have CK := Lib.hid (show ∀ wx, ISt w wx g cc kb p st.list → wx.cell? ⟨kb, x, none⟩ = some (.int .u32 (un32 kw)) from fun wx h => by rw [hkw]; exact h.ak.word (i := x) hlt)
                          have CW := Lib.hid (show ∀ wx, Arr wx q 142 (wv ws) → wx.cell? ⟨q, x, none⟩ = some (.int .u32 (un32 ww)) from fun wx h => by rw [hww]; exact h.word (i := x) (by rw [HWL.out]; exact hlt))
                          have HLJ := Lib.hid hlt
                          have hi0 : (0 : Int) ≤ (x : Int) := by omega
                          have hi1 : (x : Int) < 64 := by omega
                          clear hkw hww hlt hx
                          obtain ⟨S1, hS1⟩ : ∃ y, y = bigE e := ⟨_, rfl⟩
                          obtain ⟨CH, hCH⟩ : ∃ y, y = choose3 e f h7 := ⟨_, rfl⟩
                          obtain ⟨T1, hT1⟩ : ∃ y, y = h8 + S1 + CH + kw + ww := ⟨_, rfl⟩
                          obtain ⟨A0, hA0⟩ : ∃ y, y = bigA a := ⟨_, rfl⟩
                          obtain ⟨MJ, hMJ⟩ : ∃ y, y = major a b c := ⟨_, rfl⟩
                          have HN3 := Lib.hid (show St.list ⟨T1 + A0 + MJ, a, b, c, d + T1, e, f, h7⟩ = (roundsAt ws st (x + 1)).list by
                            rw [← HN2.out, ← rnd2_eq, hMJ, hA0, hT1, hCH, hS1]; rfl)
                          have HS1 := Lib.hid hS1
                          have HCH := Lib.hid hCH
                          have HT1 := Lib.hid hT1
                          have HA0 := Lib.hid hA0
                          have HMJ := Lib.hid hMJ
                          clear hS1 hCH hT1 hA0 hMJ HN2
                          go_upto_region 29 with fail
                          go_cut [16] (fun s16 wx => s16 = .int .u32 (un32 S1) ∧ ISt w wx g cc kb p st.list ∧ Arr wx q 142 (wv ws) ∧ Arr wx vb 141 (wv (St.list ⟨a, b, c, d, e, f, h7, h8⟩)))
                          case first => as_aux_lemma =>
                            go_quiet ((go_at_call 87; exact Calls.quiet_of_same (turnq _ _ _ (by decide))))
                            go_wp2_with fail
                            go_meet
                            exact ⟨by rw [HS1.out, ← bigE_rotn], HST.out.drewN nq, HQ.out, HV.out⟩
                          case rest =>
                            obtain ⟨rfl, hst, hq, hv⟩ := hcut
                            clear HST HQ HV c0 c1 c2 c3 c4 c5 c6 c7
                            have HST := Lib.hid hst
                            have HQ := Lib.hid hq
                            have HV := Lib.hid hv
                            clear hst hq hv
                            obtain ⟨c0, c1, c2, c3, c4, c5, c6, c7⟩ := HCELLS.out _ HV.out
                            go_upto_region 30 with fail
                            go_cut [17] (fun s17 wx => s17 = .int .u32 (un32 CH) ∧ ISt w wx g cc kb p st.list ∧ Arr wx q 142 (wv ws) ∧ Arr wx vb 141 (wv (St.list ⟨a, b, c, d, e, f, h7, h8⟩)))
                            case first => as_aux_lemma =>
                              go_wp2_with fail
                              go_meet
                              exact ⟨by rw [HCH.out]; first | rfl | (simp only [ones32, xor32, and32]; rfl), HST.out, HQ.out, HV.out⟩
                            case rest =>
                              obtain ⟨rfl, hst, hq, hv⟩ := hcut
                              clear HST HQ HV c0 c1 c2 c3 c4 c5 c6 c7
                              have HST := Lib.hid hst
                              have HQ := Lib.hid hq
                              have HV := Lib.hid hv
                              clear hst hq hv
                              obtain ⟨c0, c1, c2, c3, c4, c5, c6, c7⟩ := HCELLS.out _ HV.out
                              go_upto_region 31 with fail
                              go_cut [18] (fun s18 wx => s18 = .int .u32 (un32 T1) ∧ ISt w wx g cc kb p st.list ∧ Arr wx q 142 (wv ws) ∧ Arr wx vb 141 (wv (St.list ⟨a, b, c, d, e, f, h7, h8⟩)))
                              case first => as_aux_lemma =>
                                have ck := CK.out _ HST.out
                                have cw := CW.out _ HQ.out
                                go_quiet (fail)
                                go_wp2_with fail
                                go_meet
                                exact ⟨by rw [HT1.out]; first | rfl | exact congrArg _ (add32 _ _), HST.out.drewN nq, HQ.out, HV.out⟩
                              case rest =>
                                obtain ⟨rfl, hst, hq, hv⟩ := hcut
                                clear HST HQ HV c0 c1 c2 c3 c4 c5 c6 c7
                                have HST := Lib.hid hst
                                have HQ := Lib.hid hq
                                have HV := Lib.hid hv
                                clear hst hq hv
                                obtain ⟨c0, c1, c2, c3, c4, c5, c6, c7⟩ := HCELLS.out _ HV.out
                                go_upto_region 32 with fail
                                go_cut [19] (fun s19 wx => s19 = .int .u32 (un32 A0) ∧ ISt w wx g cc kb p st.list ∧ Arr wx q 142 (wv ws) ∧ Arr wx vb 141 (wv (St.list ⟨a, b, c, d, e, f, h7, h8⟩)))
                                case first => as_aux_lemma =>
                                  go_quiet ((go_at_call 87; exact Calls.quiet_of_same (turnq _ _ _ (by decide))))
                                  go_wp2_with fail
                                  go_meet
                                  exact ⟨by rw [HA0.out, ← bigA_rotn], HST.out.drewN nq, HQ.out, HV.out⟩
                                case rest =>
                                  obtain ⟨rfl, hst, hq, hv⟩ := hcut
                                  clear HST HQ HV c0 c1 c2 c3 c4 c5 c6 c7
                                  have HST := Lib.hid hst
                                  have HQ := Lib.hid hq
                                  have HV := Lib.hid hv
                                  clear hst hq hv
                                  obtain ⟨c0, c1, c2, c3, c4, c5, c6, c7⟩ := HCELLS.out _ HV.out
                                  go_upto_region 33 with fail
                                  go_cut [20] (fun s20 wx => s20 = .int .u32 (un32 MJ) ∧ ISt w wx g cc kb p st.list ∧ Arr wx q 142 (wv ws) ∧ Arr wx vb 141 (wv (St.list ⟨a, b, c, d, e, f, h7, h8⟩)))
                                  case first => as_aux_lemma =>
                                    go_wp2_with fail
                                    go_meet
                                    exact ⟨by rw [HMJ.out]; first | rfl | (simp only [xor32, and32]; rfl), HST.out, HQ.out, HV.out⟩
                                  case rest =>
                                    obtain ⟨rfl, hst, hq, hv⟩ := hcut
                                    clear HST HQ HV c0 c1 c2 c3 c4 c5 c6 c7
                                    have HST := Lib.hid hst
                                    have HQ := Lib.hid hq
                                    have HV := Lib.hid hv
                                    clear hst hq hv
                                    obtain ⟨c0, c1, c2, c3, c4, c5, c6, c7⟩ := HCELLS.out _ HV.out
                                    go_upto_region 34 with fail
                                    obtain ⟨vs, hvs⟩ : ∃ vs, vs = (wv (St.list ⟨T1 + A0 + MJ, a, b, c, d + T1, e, f, h7⟩)).toArray := ⟨_, rfl⟩
                                    have hvz : (Try.prog.info? 141).map (·.size) = some vs.size := by rw [hvs, stSize]; exact info88
                                    have HVN := Lib.hid (show Arr (wc.setRow vb vs) vb 141 (wv (roundsAt ws st (x + 1)).list) by
                                      rw [← HN3.out, hvs]; exact HV.out.setRow _)
                                    have HSN := Lib.hid (HST.out.row vb vs HKV.out)
                                    have HQN := Lib.hid (HQ.out.setRow_other vb vs (by have := HQV.out; omega))
                                    have HVS := Lib.hid hvs
                                    have HVZ := Lib.hid hvz
                                    clear hvs hvz
                                    go_wp2_with (refine wpList_store_row rfl 141 (.tmp 14) (.tmp 252) rfl vb vs rfl (by rw [HVS.out]; rfl) 141 _ HV.out HVZ.out (by rw [HVS.out]; exact (stSize _).trans (stSize _).symm) (by rw [HVS.out]; exact all_oneCell_toArray (wv_one _)) ?_)
                                    go_roundg (64 - (x + 1))
                                    case measure => have := HKJ.out; have := HLJ.out; omega
                                    case rel => exact ⟨x + 1, HLJ.out, rfl, by go_num, HSN.out, HQN.out, HVN.out⟩
                        · obtain rfl : x = 64 := by omega
                          obtain ⟨v6, hv6⟩ : ∃ v6, v6 = roundsAt ws st 64 := ⟨_, rfl⟩
                          rw [← hv6] at hv HS
                          have HV := Lib.hid hv
                          clear hv hv6 hlt hx HQ HKJ
                          go_wp2_with fail
                          go_loopg [21] 8 (fun k s21 wr => ∃ x : Nat, x ≤ 8 ∧ k = 8 - x ∧ s21 = .int .i64 (x : Int) ∧ ISt w wr g cc kb p (mixL st.list v6.list x) ∧ Arr wr vb 141 (wv v6.list))
                          case atStart => exact ⟨0, by omega, by omega, rfl, by rw [mixL_zero]; exact HST.out, HV.out⟩
                          case round =>
                            obtain ⟨x, hx, hk, rfl, hst, hv⟩ := hrel
                            clear HST HV
                            have HKJ := Lib.hid hk
                            clear hk
                            by_cases hlt : x < 8
                            · as_aux_lemma =>
                                have cg := hst.a1.word (i := x) (by rw [mixL_length]; exact hlt)
                                have cv := hv.word (i := x) hlt
                                rw [mixL_at _ _ _ hlt] at cg
                                have cf := hst.a1.frozen x
                                have HNX := Lib.hid (mixL_succ st.list v6.list x hlt)
                                generalize wd st.list x = y0 at *
                                generalize wd v6.list x = y1 at *
                                have HST := Lib.hid hst
                                have HV := Lib.hid hv
                                have HLJ := Lib.hid hlt
                                have hi0 : (0 : Int) ≤ (x : Int) := by omega
                                have hi1 : (x : Int) < 8 := by omega
                                clear hst hv hx hlt
                                go_upto_region 38 with fail
                                go_region
                                all_goals
                                  go_wp2_with fail
                                  go_roundg (8 - (x + 1))
                                  case measure => have := HKJ.out; have := HLJ.out; omega
                                  case rel =>
                                    have hkv := HKV.out
                                    have hg1 := HST.out.g0
                                    have hg2 := HST.out.gk
                                    exact ⟨x + 1, HLJ.out, rfl, by go_num, by rw [← HNX.out]; exact (HST.out.add x (y0 + y1)).drew, (HV.out.set_other _ (by simp; omega) _)⟩
                            · obtain rfl : x = 8 := by omega
                              rw [mixL_done, HS.out] at hst
                              have HST := Lib.hid hst
                              clear hst hv hx hlt HKJ
                              go_wp2_with fail
                              go_roundg (N - (i + 1))
                              case measure => have := HKO.out; have := HLO.out; omega
                              case rel => exact ⟨i + 1, m + 64, HLO.out, rfl, by have := HMM.out; omega, by go_num, HST.out⟩
            · obtain rfl : i = N := by omega
              have hS : shaOf l = (stAt p i).list.flatMap be4 := by rw [shaOf, ← HPP.out, hN, Nat.mul_div_cancel_left _ (by omega)]
              have HSS := Lib.hid hS
              clear hS
              generalize stAt p i = st at *
              have h1 : (m : Int) = (p.length : Int) := by omega
              clear hst hk hN hlt hi hm
              go_upto_region 39 with fail
              obtain ⟨z33, hz33⟩ : ∃ z33, z33 = (bv (List.replicate 32 0)).toArray := ⟨_, rfl⟩
              obtain ⟨q, hq⟩ : ∃ q, q = wr.heap.size := ⟨_, rfl⟩
              refine wp_region_lit ?_
              refine Great.wpList_allocTo rfl _ rfl (.pointer (some ⟨q, 0, none⟩)) (.cells z33 86) ?x9 ?_
              case x9 => rw [hz33, hq]; kernel_rfl
              refine wpList_nil ?_
              rename_i hK
              refine hK _ _ ?_
              clear hK
              obtain ⟨f, hf⟩ : ∃ f, f = st.list.flatMap be4 := ⟨_, rfl⟩
              rw [← hf] at HSS
              have hkq : kb < q := by rw [hq]; exact HST.out.ak.lt
              have HST1 := Lib.hid (HST.out.alloc (.cells z33 86))
              have HQ1 := Lib.hid (show Arr (wr.alloc (.cells z33 86)) q 86 (bv (outB f 0)) by rw [hz33]; exact Arr.new_at _ _ (bv (List.replicate 32 0)) _ hq)
              have HKQ := Lib.hid hkq
              have HF := Lib.hid hf
              have HFL := Lib.hid (show f.length = 32 by rw [hf, flat_length])
              clear hz33 hq HST hkq hf h1
              generalize wr.alloc (.cells z33 86) = w5 at *
              go_wp2_with fail
              go_loopg [23] 32 (fun k s23 wr => ∃ x : Nat, x ≤ 32 ∧ k = 32 - x ∧ s23 = .int .i64 (x : Int) ∧ ISt w wr g cc kb p st.list ∧ Arr wr q 86 (bv (outB f x)))
              case atStart => exact ⟨0, by omega, by omega, rfl, HST1.out, HQ1.out⟩
              case round =>
                obtain ⟨x, hx, hk, rfl, hst, hq⟩ := hrel
                clear HST1 HQ1
                have HST := Lib.hid hst
                have HQ := Lib.hid hq
                have HKI := Lib.hid hk
                clear hk
                by_cases hlt : x < 32
                · as_aux_lemma =>
                    obtain ⟨a, ha⟩ : ∃ a, a = x / 4 := ⟨_, rfl⟩
                    obtain ⟨b, hb⟩ : ∃ b, b = x % 4 := ⟨_, rfl⟩
                    have hq4 : (x : Int) / 4 = (a : Int) := by omega
                    have hr4 : (x : Int) % 4 = (b : Int) := by omega
                    obtain ⟨y, hy⟩ : ∃ y : Int, 24 - 8 * (b : Int) = y := ⟨_, rfl⟩
                    have hy0 : 0 ≤ y := by omega
                    have hy1 : y ≤ 24 := by omega
                    have ha0 : (0 : Int) ≤ (a : Int) := by omega
                    have ha1 : (a : Int) < 8 := by omega
                    have hb0 : (0 : Int) ≤ (b : Int) := by omega
                    have hb1 : (b : Int) < 4 := by omega
                    have hx0 : (0 : Int) ≤ (x : Int) := by omega
                    have hx1 : (x : Int) < 32 := by omega
                    have ca := hst.a1.word (i := a) (by show a < 8; omega)
                    have hB : un32 (wd st.list a) / 2 ^ y.toNat % 256 = un8 (bt f x) := by
                      rw [show y.toNat = 24 - 8 * b by omega, HF.out, show x = 4 * a + b by omega]
                      exact out_byte st a b (by omega) (by omega)
                    obtain ⟨ux, cx⟩ : ∃ u, wr.cell? ⟨q, x, none⟩ = some u := ⟨_, hq.byte (i := x) (by rw [outB_length f x HFL.out hx]; exact hlt)⟩
                    have fx := hq.frozen x
                    have HSX := Lib.hid (outB_succ f x HFL.out hlt)
                    generalize wd st.list a = xa at *
                    generalize bt f x = bx at *
                    have HLI := Lib.hid hlt
                    clear ha hb hst hq hx hlt
                    go_wp2_with fail
                    go_roundg (32 - (x + 1))
                    case measure => have := HKI.out; have := HLI.out; omega
                    case rel =>
                      refine ⟨x + 1, HLI.out, rfl, by go_num, HST.out.set _ _ _ HKQ.out, ?_⟩
                      rw [← HSX.out, ← bv_set]
                      exact HQ.out.set _ _
                · obtain rfl : x = 32 := by omega
                  rw [outB_done f HFL.out] at HQ
                  obtain ⟨cs, hcs⟩ : ∃ cs, cs = (bv f).toArray := ⟨_, rfl⟩
                  have hsz8 : cs.size = 32 := by rw [hcs, List.size_toArray, bv_length, HFL.out]
                  have hcz : (Try.prog.info? 86).map (·.size) = some cs.size := by rw [hsz8]; exact info72
                  have HCS := Lib.hid hcs
                  have HS8 := Lib.hid hsz8
                  have HCZ := Lib.hid hcz
                  clear hcs hsz8 hcz hlt hx hst hq
                  go_upto_region 44 with fail
                  refine wp_region_lit ?_
                  refine wpList_load_row rfl 86 (.tmp 22) rfl q rfl 86 cs (0, 0) _ (by rw [HCS.out]; exact HQ.out) Try.underlying86 rfl HCZ.out ?_
                  refine wpList_store_row rfl 86 (.tmp 2) (.tmp 283) rfl w.heap.size cs rfl rfl 86 (bv (List.replicate 32 0)).toArray HST.out.a0 HCZ.out (by rw [HS8.out]; rfl) (by rw [HCS.out]; exact all_oneCell_toArray (bv_one _)) ?_
                  refine wpList_nil ?_
                  rename_i hK
                  refine hK _ _ ?_
                  apply wp_ret
                  refine bodyPost_ret (v := .agg cs) ?_ rfl ?_
                  case refine_2 => exact ⟨by rw [HCS.out, HSS.out], below_setRow HST.out.b _ _ (Nat.le_refl _)⟩
                  exact results_cell_row rfl _ _ w.heap.size 86 cs (0, 0) _ rfl (setRow_heap _ _ _ _ _ _ HST.out.a0) Try.underlying86 rfl HCZ.out

end
end Go.Proofs.Ytjakhemolecbnaa
end

/-
  The walk of the reference's Next.
-/
section
set_option linter.unusedVariables false
set_option linter.unusedSimpArgs false
namespace Go.Proofs.Ytjakhemolecbnaa
open Go.RowKit

set_option maxRecDepth 100000 in
set_option maxHeartbeats 4000000 in
theorem refNext_any (h : List UInt8) (s : ByteArray) (w : World) (hh : h.length = 32) (hs : s.size ≤ 1500000) :
    Calls Try.prog 51 #[.agg (bv h).toArray, .string s] w fun e w' => e = .returned (.agg (bv (nextOf h s.data.toList)).toArray) ∧ Below w.heap.size w w' := by
  obtain ⟨i8, hi8, hz8, hs8, hb8⟩ := info8i
  obtain ⟨hc, ehc⟩ : ∃ hc, hc = (bv h).toArray := ⟨_, rfl⟩
  obtain ⟨z32, hz32⟩ : ∃ z32, z32 = (bv (List.replicate 32 0)).toArray := ⟨_, rfl⟩
  rw [← ehc]
  have HI8 := Lib.hid hi8
  have HZ8 := Lib.hid hz8
  have HS8 := Lib.hid hs8
  have HB8 := Lib.hid hb8
  have HHL := Lib.hid hh
  have HSS := Lib.hid hs
  clear hi8 hz8 hs8 hb8 hh hs
  go_enter Try.func51, Try.ntmps51
  go_upto_region 0 with fail
  refine wp_region_lit ?_
  refine Great.wpList_boxTo rfl 86 (.tmp 0) rfl (some 2) rfl w.heap.size rfl hc rfl ?_
  obtain ⟨w1, hw1⟩ : ∃ w1, w1 = w.alloc (.cells hc 86) := ⟨_, rfl⟩
  rw [← hw1]
  have hs1 : w1.heap.size = w.heap.size + 1 := by rw [hw1]; simp
  have hA0 : Arr w1 w.heap.size 86 (bv h) := by rw [hw1, ehc]; exact Arr.new _ _ _
  have hB1 : Below w.heap.size w w1 := by rw [hw1]; exact (Below.refl _ _).alloc (Nat.le_refl _) _
  refine Great.wpList_allocTo rfl _ rfl (.pointer (some ⟨w.heap.size + 1, 0, none⟩)) (.cells z32 86) ?x1 ?_
  case x1 => rw [hz32, ← hs1]; kernel_rfl
  refine wpList_nil ?_
  rename_i hK
  refine hK _ _ ?_
  clear hK
  obtain ⟨w2, hw2⟩ : ∃ w2, w2 = w1.alloc (.cells z32 86) := ⟨_, rfl⟩
  rw [← hw2]
  have hA1 : Arr w2 (w.heap.size + 1) 86 (bv (List.replicate 32 0)) := by rw [hw2, hz32]; exact Arr.new_at _ _ _ _ hs1.symm
  have hA0' : Arr w2 w.heap.size 86 (bv h) := by rw [hw2]; exact hA0.alloc _
  have hB2 : Below w.heap.size w w2 := by rw [hw2]; exact hB1.alloc hB1.size _
  have hR2 : RB w2 (some ⟨w.heap.size, 0, none⟩) h := by
    refine RC.bytes (fun hp => ⟨_, rfl, fun j v hj => ?_⟩)
    rw [add_off, Nat.zero_add]
    exact hA0'.cell hj
  have HA1 := Lib.hid hA1
  have HB2 := Lib.hid hB2
  have HR2 := Lib.hid hR2
  clear hw2 hw1 hs1 hA0 hB1 hA1 hA0' hB2 hR2 hz32 ehc
  go_wp2_with (at_builtin; refine append_bytes rfl _ _ 25 rfl w2.heap.size 5 Try.underlying25 info8 _ [] rfl (World.ownsRow_lit w2 #[] 0 (Nat.le_refl _) (by simp [maxLen]) rfl) _ _ _ h rfl HHL.out (HR2.out.below ((Below.refl _ _).alloc (Nat.le_refl _) _)) ?c1 ?c2 ?_)
  case c1 => simp
  case c2 => simp
  intro v5 w5 ho5 hg5 _
  have hb5 : Below w2.heap.size w2 w5 := ((Below.refl _ _).alloc (Nat.le_refl _) _).grown hg5 (by simp) (fun k hk => by simp [Value.ownBlock] at hk; omega)
  have ho5' : w5.ownsRow w2.heap.size 5 1 v5 32 (bv h) := by simpa using ho5
  have HO5 := Lib.hid ho5'
  have HB5 := Lib.hid hb5
  clear ho5 ho5' hg5 hb5
  go_wp2_with (at_builtin; refine wpList_append_str rfl (.tmp 7) (.tmp 8) 25 9 rfl w2.heap.size 5 i8 Try.underlying25 Try.underlying9 HI8.out HZ8.out HS8.out HB8.out v5 32 (bv h) rfl HO5.out (by omega) s rfl ?c1 ?c2 ?_)
  case c1 => have := HSS.out; omega
  case c2 => exact HB5.out.size
  intro v3 w3 ho3 hg3 _
  have hb3 : Below w2.heap.size w2 w3 := HB5.out.grown hg3 HB5.out.size (fun k hk => (World.ownsRow.lt HO5.out k hk).1)
  have ho3' : w3.ownsRow w2.heap.size 5 1 v3 (32 + s.size) (bv (h ++ s.data.toList)) := by rw [bv_append, ← strCells_bv]; exact ho3
  obtain ⟨A, c, rfl, _⟩ := own_slice ho3'
  have HR3 := Lib.hid (own_RC ho3').bytes
  have HB3 := Lib.hid (below_below HB2.out HB2.out.size hb3)
  have HA3 := Lib.hid (HA1.out.below hb3 HA1.out.lt)
  clear ho3 ho3' hg3 hb3
  go_wp2_with fail
  refine (refSha_any A (32 + s.size) c (h ++ s.data.toList) w3 (by rw [List.length_append, HHL.out, data_length]) (by have := HSS.out; omega) HR3.out).mono ?_
  obtain ⟨cs, ecs⟩ : ∃ cs, cs = (bv (shaOf (h ++ s.data.toList))).toArray := ⟨_, rfl⟩
  have hz : cs.size = 32 := by rw [ecs, List.size_toArray, bv_length, shaOf_length]
  have hcz : (Try.prog.info? 86).map (·.size) = some cs.size := by rw [hz]; exact info72
  have ECS := Lib.hid ecs
  have HZZ := Lib.hid hz
  have HCZ := Lib.hid hcz
  rw [← ecs]
  clear ecs hz hcz
  rintro e w4 ⟨rfl, hb4⟩
  have HA4 := Lib.hid (HA3.out.below hb4 HA3.out.lt)
  have HB4 := Lib.hid (below_below HB3.out HB3.out.size hb4)
  clear hb4
  go_wp2_with (refine wpList_store_row rfl 86 (.tmp 4) (.tmp 10) rfl (w.heap.size + 1) cs rfl rfl 86 _ HA4.out HCZ.out (by rw [HZZ.out]; rfl) (by rw [ECS.out]; exact all_oneCell_toArray (bv_one _)) ?_)
  refine bodyPost_ret (v := .agg cs) ?_ rfl ?_
  case refine_2 => exact ⟨by rw [ECS.out]; rfl, below_setRow HB4.out _ _ (by omega)⟩
  exact results_cell_row rfl _ _ (w.heap.size + 1) 86 cs (0, 0) _ rfl (setRow_heap _ _ _ _ _ _ HA4.out) Try.underlying86 rfl HCZ.out

end Go.Proofs.Ytjakhemolecbnaa
end

/-
  The reference's links: held against each other, and built.
-/
section
set_option linter.unusedVariables false
set_option linter.unusedSimpArgs false
namespace Go.Proofs.Ytjakhemolecbnaa
open Go.RowKit

theorem cellsLk2 : Try.prog.cellsOf 88 = 33 := by kernel_rfl
theorem keyLitsLk2 (d : Nat) (s x : List UInt8) (hs : s.length ≤ 1000000) (hx : x.length = 32) : Try.prog.keyLits (d + 3) 88 (lk (s, x)) = some (.string s :: x.map lit8) := by
  unfold Program.keyLits
  simp only [Try.underlying88]
  rw [if_pos ⟨by rw [lk_length _ hx, cellsLk2], by kernel_rfl⟩]
  simp only [List.mapM_cons, List.mapM_nil, cellsS, cells28]
  have e0 : ((lk (s, x)).drop 0).take 1 = [.string (strB s)] := rfl
  have e1 : ((lk (s, x)).drop 1).take 32 = bv x := by
    show (bv x).take 32 = bv x
    rw [List.take_of_length_le (by rw [bv_length, hx]; omega)]
  rw [e0, e1, keyLitS (d + 1) s hs, keyLits32 d x hx]
  simp
theorem formedLk2 (s x : List UInt8) (hx : x.length = 32) : (Value.agg (lk (s, x)).toArray).formed Try.prog 88 = true := by
  simp only [Value.formed, Try.underlying88, cellsLk2, List.size_toArray, lk_length (s, x) hx]
  rfl
/-- Two links. -/
theorem eqLk2 (a b : List UInt8 × List UInt8) (ha : a.1.length ≤ 1000000) (hb : b.1.length ≤ 1000000) (hx : a.2.length = 32) (hy : b.2.length = 32) (w : World) :
    (Op.equalIn 10000 88 (.agg (lk a).toArray) (.agg (lk b).toArray)).run Try.prog w = .ok (decide (a = b)) w := by
  obtain ⟨s, x⟩ := a
  obtain ⟨t, y⟩ := b
  obtain ⟨r, hr, hiff⟩ := run_equalIn_deep (P := Try.prog) 9997 3 88 (by kernel_rfl) w 3 3 (.agg (lk (s, x)).toArray) (.agg (lk (t, y)).toArray) _ _ (formedLk2 s x hx) (formedLk2 t y hy) (keyLitsLk2 0 s x ha hx) (keyLitsLk2 0 t y hb hy)
  have e : r = decide ((s, x) = (t, y)) := by
    by_cases h : (s, x) = (t, y)
    · rw [decide_eq_true h]; exact hiff.2 (by cases h; rfl)
    · rw [decide_eq_false h]
      cases r with
      | false => rfl
      | true =>
        have h2 := hiff.1 rfl
        simp only [List.cons.injEq, Lit.string.injEq] at h2
        exact absurd (by rw [h2.1, lits_inj h2.2]) h
  rw [← e]
  exact hr

theorem infoLkr : (Try.prog.info? 88).map (fun i => (i.zero, i.size, i.bytes)) = some (some (.agg (lk ([], hd0)).toArray), 33, 48) := by kernel_rfl
theorem info33r : (Try.prog.info? 88).map (·.size) = some 33 := by kernel_rfl
theorem built_link2 (s h : List UInt8) (hh : h.length = 32) : Try.prog.built 88 [(0, .string (strB s)), (1, .agg (bv h).toArray)] = some (lk (s, h)).toArray := by
  rw [← range_bt h hh]
  unfold lk
  simp only []
  generalize strB s = q
  generalize bt h = f
  kernel_rfl
theorem built_one2 (s h : List UInt8) (hh : h.length = 32) : Try.prog.builtSlice 88 1 [(0, .agg (lk (s, h)).toArray)] = some (lk (s, h)).toArray := by
  rw [← range_bt h hh]
  unfold lk
  simp only []
  generalize strB s = q
  generalize bt h = f
  kernel_rfl


end Go.Proofs.Ytjakhemolecbnaa
end

/-
  The walk of the reference's Prefix, of the chain.
-/
section
set_option linter.unusedVariables false
set_option linter.unusedSimpArgs false
namespace Go.Proofs.Ytjakhemolecbnaa
open Go.RowKit

end Go.Proofs.Ytjakhemolecbnaa
end

/-
  A region that draws its order, proved by an outline in which a property is kept only once its operation is done.
-/
section
set_option linter.unusedVariables false
set_option linter.unusedSimpArgs false
namespace Go.Proofs.Ytjakhemolecbnaa
open Go.RowKit

variable {P : Program} {ops : Array Oper} {Q : Exit → Act → World → Prop}

def OpOkM (P : Program) (ops : Array Oper) (Q : Exit → Act → World → Prop) (a : Act) (I : Array Bool → World → Prop) (φ : Nat → Value → World → Prop) (i : Nat) (o : Oper) : Prop :=
  ∀ (l : Array Bool) (a' : Act) (w' : World) (K : Act → World → Prop), I l w' → (∀ j k, edgeB ops j k = true → l.getD k false = false → l.getD j false = false) → l.size = ops.size → l.getD i false = false →
    (∀ j t, depB ops i j t = true → φ j (a'.tmps.getD t undef) w') →
    (∀ t, quietB ops i t = true → a'.tmps.getD t undef = a.tmps.getD t undef) →
    (∀ v w'', I (l.setIfInBounds i true) w'' → (∀ j u, l.getD j false = true → φ j u w' → φ j u w'') → φ i v w'' → K (a'.put o.dst v) w'') →
    if Region.wanted o (yielded ops a'.tmps) = true then o.wp P a' w' K Q else K (a'.put o.dst undef) w'

theorem Mid.stepM {a : Act} {I : Array Bool → World → Prop} {φ : Nat → Value → World → Prop} {listed : Array Bool} {a' : Act} {w' w'' : World} {i : Nat} {o : Oper} {v : Value}
    (hap : apartB ops a.tmps.size = true) (h : Mid ops a I φ listed a' w') (ho : ops[i]? = some o) (hn : listed.getD i true = false)
    (hb : ∀ e ∈ o.after.toList, Region.binds .any e = true → listed.getD e.on false = true)
    (hI : I (listed.setIfInBounds i true) w'') (hφ : ∀ j u, listed.getD j false = true → φ j u w' → φ j u w'') (hv : φ i v w'') : Mid ops a I φ (listed.setIfInBounds i true) (a'.put o.dst v) w'' := by
  have hi : i < ops.size := (Array.getElem?_eq_some_iff.1 ho).1
  have hil : i < listed.size := by rw [h.len]; exact hi
  refine ⟨hI, by rw [put_size, h.size], by rw [put_defers, h.defers], by simp [h.len], ?_, ?_, ?_, ?_⟩
  · intro j oj hj hl e he hbe
    rw [getD_set _ _ _ hil] at hl ⊢
    by_cases hji : j = i
    · subst hji
      rw [ho] at hj
      cases hj
      split
      · rfl
      · exact hb e he hbe
    · rw [if_neg hji] at hl
      split
      · rfl
      · exact h.closed j oj hj hl e he hbe
  · intro j oj t hj hl hd
    rw [getD_set _ _ _ hil] at hl
    by_cases hji : j = i
    · subst hji
      rw [ho] at hj
      cases hj
      rw [hd, put_getD_same _ _ _ (by rw [h.size]; exact apart_lt hap ho hd)]
      exact hv
    · rw [if_neg hji] at hl
      have h1 := hφ j _ hl (h.has j oj t hj hl hd)
      cases hdi : o.dst with
      | none => exact h1
      | some s =>
        have hst : t ≠ s := fun e => hji (by subst e; exact apart_ne hap hj ho hd hdi)
        rw [put_getD_other _ _ _ _ hst]
        exact h1
  · intro j oj hj hl hd
    rw [getD_set _ _ _ hil] at hl
    by_cases hji : j = i
    · subst hji
      exact ⟨v, hv⟩
    · rw [if_neg hji] at hl
      obtain ⟨u, hu⟩ := h.bare j oj hj hl hd
      exact ⟨u, hφ j u hl hu⟩
  · intro t ht
    have h1 : ∀ j oj, ops[j]? = some oj → listed.getD j false = true → oj.dst ≠ some t := by
      intro j oj hj hl
      refine ht j oj hj ?_
      rw [getD_set _ _ _ hil]
      split
      · rfl
      · exact hl
    have h2 : o.dst ≠ some t := ht i o ho (by rw [getD_set _ _ _ hil, if_pos rfl])
    rw [← h.old t h1]
    cases hdi : o.dst with
    | none => rfl
    | some s => exact put_getD_other _ _ _ _ (fun e => h2 (by rw [hdi, e]))

theorem outline_walkM {a : Act} {I : Array Bool → World → Prop} {φ : Nat → Value → World → Prop} (hap : apartB ops a.tmps.size = true)
    (ok : ∀ i o, ops[i]? = some o → OpOkM P ops Q a I φ i o)
    (fin : ∀ listed a' w', Mid ops a I φ listed a' w' → (∀ i, i < ops.size → listed.getD i false = true) → Q .normal a' w')
    (acyc : ∀ listed : Array Bool, listed.size = ops.size → Region.ready .any ops listed = [] → ∀ i, i < ops.size → listed.getD i false = true) :
    ∀ fuel listed a' w', Mid ops a I φ listed a' w' → (fuel + (listed.toList.filter id).length = ops.size) → wpAny P .any ops Q fuel listed a' w' := by
  intro fuel
  induction fuel with
  | zero =>
    intro listed a' w' h hf
    have hall : ∀ i, i < ops.size → listed.getD i false = true := by
      intro i hi
      have h1 : (listed.toList.filter id).length = listed.toList.length := by
        have := h.len
        have h3 : listed.toList.length = listed.size := Array.length_toList
        omega
      have h2 := List.length_filter_eq_length_iff.1 h1
      have hil : i < listed.size := by rw [h.len]; exact hi
      have := h2 listed[i] (by simp)
      simpa [Array.getD_eq_getD_getElem?, hil] using this
    refine ⟨?_, fin listed a' w' h hall⟩
    unfold Region.ready
    rw [List.filter_eq_nil_iff]
    intro i hi
    have h1 := hall i (List.mem_range.1 hi)
    have h2 : listed.getD i true = true := by
      have hil : i < listed.size := by rw [h.len]; exact List.mem_range.1 hi
      simpa [Array.getD_eq_getD_getElem?, hil] using h1
    simp [h2]
  | succ fuel ih =>
    intro listed a' w' h hf
    refine ⟨fun hr => fin listed a' w' h (acyc listed h.len hr), ?_⟩
    intro i hi
    unfold Region.ready at hi
    obtain ⟨hi1, hi2⟩ := List.mem_filter.1 hi
    have hi1 := List.mem_range.1 hi1
    have ho : ops[i]? = some ops[i] := Array.getElem?_eq_getElem hi1
    simp only [ho, Option.map_some, Option.getD_some, Bool.and_eq_true, Bool.not_eq_true'] at hi2
    obtain ⟨hn, hb⟩ := hi2
    have hil : i < listed.size := by rw [h.len]; exact hi1
    have hnf : listed.getD i false = false := by
      simpa [Array.getD_eq_getD_getElem?, hil] using hn
    have hb' : ∀ e ∈ ops[i].after.toList, Region.binds .any e = true → listed.getD e.on false = true := by
      intro e he hbe
      have h1 := Array.all_eq_true_iff_forall_mem.1 hb e (by simpa using he)
      simpa [hbe] using h1
    refine wpOp_step ho (fun K' hK => ?_)
    have hcl : ∀ j k, edgeB ops j k = true → listed.getD k false = false → listed.getD j false = false := by
      intro j k hjk hk
      unfold edgeB at hjk
      cases hoj : ops[j]? with
      | none => rw [hoj] at hjk; cases hjk
      | some oj =>
        rw [hoj] at hjk
        obtain ⟨e, he, h2⟩ := Array.any_eq_true'.1 hjk
        simp only [Bool.and_eq_true, beq_iff_eq] at h2
        cases hx : listed.getD j false with
        | false => rfl
        | true =>
          have h3 := h.closed j oj hoj hx e (by simpa using he) h2.1
          rw [h2.2, hk] at h3
          cases h3
    refine ok i ops[i] ho listed a' w' K' h.inv hcl h.len hnf ?_ ?_ ?_
    · intro j t hdep
      unfold depB at hdep
      rw [ho] at hdep
      cases hoj : ops[j]? with
      | none => rw [hoj] at hdep; cases hdep
      | some oj =>
        rw [hoj] at hdep
        simp only [Bool.and_eq_true, beq_iff_eq] at hdep
        obtain ⟨e, he, h2⟩ := Array.any_eq_true'.1 hdep.2
        simp only [Bool.and_eq_true, beq_iff_eq] at h2
        have h3 := hb' e (by simpa using he) h2.1
        rw [h2.2] at h3
        exact h.has j oj t hoj h3 hdep.1
    · intro t ht
      refine h.old t ?_
      intro j oj hj hl hd
      have hj1 : j < ops.size := (Array.getElem?_eq_some_iff.1 hj).1
      have h1 := List.all_eq_true.1 ht j (List.mem_range.2 hj1)
      simp only [hj, hd] at h1
      simp only [bne_self_eq_false, Bool.false_or, Bool.or_eq_true, beq_iff_eq] at h1
      rcases h1 with h1 | h1
      · subst h1
        rw [hnf] at hl
        cases hl
      · obtain ⟨e, he, h2⟩ := Array.any_eq_true'.1 h1
        simp only [Bool.and_eq_true, beq_iff_eq] at h2
        have h3 := h.closed j oj hj hl e (by simpa using he) h2.1
        rw [h2.2, hnf] at h3
        cases h3
    · intro v w'' hI hφ hv
      refine hK _ _ (ih _ _ _ (h.stepM hap ho hn hb' hI hφ hv) ?_)
      have hset : ((listed.setIfInBounds i true).toList.filter id).length = (listed.toList.filter id).length + 1 := by
        have hg : listed.toList[i]'(by simpa using hil) = false := by
          simpa [Array.getD_eq_getD_getElem?, hil] using hnf
        rw [Array.toList_setIfInBounds]
        have key : ∀ (l : List Bool) (i : Nat) (h : i < l.length), l[i] = false → ((l.set i true).filter id).length = (l.filter id).length + 1 := by
          intro l
          induction l with
          | nil => intro i h; simp at h
          | cons x l ihl =>
            intro i h hx
            cases i with
            | zero => simp only [List.getElem_cons_zero] at hx; subst hx; simp
            | succ i =>
              simp only [List.getElem_cons_succ] at hx
              have := ihl i (by simpa using h) hx
              cases x <;> simp [this]
        exact key _ _ _ hg
      omega

theorem region_outlineM {id : Nat} {a : Act} {w : World} (I : Array Bool → World → Prop) (φ : Nat → Value → World → Prop) (hm : P.follows .mixedOrders = true)
    (hap : apartB ops a.tmps.size = true) (hback : backB ops = true) (hI : I (Array.replicate ops.size false) w.drew)
    (ok : ∀ i o, ops[i]? = some o → OpOkM P ops Q a I φ i o)
    (fin : ∀ (l : Array Bool) (v : Nat → Value) (w' : World), l.size = ops.size → (∀ i, i < ops.size → l.getD i false = true) → I l w' → (∀ j, j < ops.size → φ j (v j) w') → Q .normal (fillFrom v ops.toList 0 a) w') : (Code.region id ops true).wp P Q a w := by
  refine wp_region_any hm ?_
  refine outline_walkM (I := I) (φ := φ) hap ok ?_ (acyc_of_back hback) ops.size _ _ _ ?_ ?_
  · intro listed a' w' h hall
    have hex : ∀ j, ∃ u, j < ops.size → φ j u w' ∧ ∀ o t, ops[j]? = some o → o.dst = some t → a'.tmps.getD t undef = u := by
      intro j
      by_cases hj : j < ops.size
      · have ho : ops[j]? = some ops[j] := Array.getElem?_eq_getElem hj
        cases hd : ops[j].dst with
        | none =>
          obtain ⟨u, hu⟩ := h.bare j _ ho (hall j hj) hd
          exact ⟨u, fun _ => ⟨hu, fun o t h1 h2 => by rw [ho] at h1; cases h1; rw [hd] at h2; cases h2⟩⟩
        | some t =>
          exact ⟨_, fun _ => ⟨h.has j _ t ho (hall j hj) hd, fun o t' h1 h2 => by rw [ho] at h1; cases h1; rw [hd] at h2; cases h2; rfl⟩⟩
      · exact ⟨undef, fun h => absurd h hj⟩
    have hv := fun j => Classical.choose_spec (hex j)
    have e : a' = fillFrom (fun j => Classical.choose (hex j)) ops.toList 0 a := by
      have hsz : a'.tmps = (fillFrom (fun j => Classical.choose (hex j)) ops.toList 0 a).tmps := by
        apply Array.ext
        · rw [fill_size, h.size]
        · intro t h1 h2
          have key : a'.tmps.getD t undef = (fillFrom (fun j => Classical.choose (hex j)) ops.toList 0 a).tmps.getD t undef := by
            by_cases hc : ∃ (j : Nat) (o : Oper), ops[j]? = some o ∧ o.dst = some t
            · obtain ⟨j, o, ho, hd⟩ := hc
              have hj : j < ops.size := (Array.getElem?_eq_some_iff.1 ho).1
              rw [fill_at _ t ops.toList 0 a j o (by simpa using ho) hd (apart_lt hap ho hd) (fun i o' hi hd' => apart_ne hap (by simpa using hi) ho hd' hd)]
              rw [Nat.zero_add]
              exact (hv j hj).2 o t ho hd
            · have hc' : ∀ (j : Nat) (o : Oper), ops[j]? = some o → o.dst ≠ some t := fun j o ho hd => hc ⟨j, o, ho, hd⟩
              rw [h.old t (fun j o ho _ => hc' j o ho), fill_other _ t ops.toList 0 a (fun o ho hd => by
                obtain ⟨i, hi⟩ := List.getElem?_of_mem ho
                exact hc' i o (by simpa using hi) hd)]
          rw [Array.getD_eq_getD_getElem?, Array.getD_eq_getD_getElem?, Array.getElem?_eq_getElem h1, Array.getElem?_eq_getElem h2] at key
          exact key
      have hdf : a'.defers = (fillFrom (fun j => Classical.choose (hex j)) ops.toList 0 a).defers := by rw [fill_defers, h.defers]
      cases a'
      cases hf : fillFrom (fun j => Classical.choose (hex j)) ops.toList 0 a
      rw [hf] at hsz hdf
      cases hsz
      cases hdf
      rfl
    rw [e]
    exact fin _ _ w' h.len hall h.inv (fun j hj => (hv j hj).1)
  · refine ⟨hI, rfl, rfl, by simp, ?_, ?_, ?_, ?_⟩
    · intro j o hj hl
      simp [Array.getD_eq_getD_getElem?, Array.getElem?_replicate] at hl
      split at hl <;> simp at hl
    · intro j o t hj hl
      simp [Array.getD_eq_getD_getElem?, Array.getElem?_replicate] at hl
      split at hl <;> simp at hl
    · intro j o hj hl
      simp [Array.getD_eq_getD_getElem?, Array.getElem?_replicate] at hl
      split at hl <;> simp at hl
    · intro t _
      rfl
  · simp

def OkAllM (P : Program) (ops : Array Oper) (Q : Exit → Act → World → Prop) (a : Act) (I : Array Bool → World → Prop) (L : List (Value → World → Prop)) : List Oper → Nat → Prop
  | [], _ => True
  | o :: l, k => OpOkM P ops Q a I (nth L) k o ∧ OkAllM P ops Q a I L l (k + 1)
theorem ok_allM {a : Act} {I : Array Bool → World → Prop} {L : List (Value → World → Prop)} : ∀ (l : List Oper) (k : Nat), OkAllM P ops Q a I L l k → ∀ i o, l[i]? = some o → OpOkM P ops Q a I (nth L) (k + i) o
  | [], _, _, i, o, h => by simp at h
  | o :: l, k, h, 0, o', h' => by
    simp only [List.getElem?_cons_zero, Option.some.injEq] at h'
    subst h'
    exact h.1
  | o :: l, k, h, i + 1, o', h' => by
    have := ok_allM l (k + 1) h.2 i o' (by simpa using h')
    rwa [show k + 1 + i = k + (i + 1) by omega] at this
theorem region_byM {id : Nat} {a : Act} {w : World} (I : Array Bool → World → Prop) (L : List (Value → World → Prop)) (hm : P.follows .mixedOrders = true)
    (hap : apartB ops a.tmps.size = true) (hback : backB ops = true) (hlen : L.length = ops.toList.length) (hI : I (Array.replicate ops.size false) w.drew)
    (ok : OkAllM P ops Q a I L ops.toList 0) (fin : ∀ l w', l.size = ops.size → (∀ i, i < ops.size → l.getD i false = true) → I l w' → FinGoal Q w' L ops.toList a) : (Code.region id ops true).wp P Q a w := by
  refine region_outlineM I (nth L) hm hap hback hI (fun i o h => ?_) (fun l v w' hl1 hl2 hI' hv => ?_)
  · have := ok_allM ops.toList 0 ok i o (by simpa using h)
    rwa [Nat.zero_add] at this
  · exact fin_goal v L ops.toList 0 a hlen (fin l w' hl1 hl2 hI') (fun j hj => by rw [Nat.zero_add]; exact hv j (by simpa using hj))

end Go.Proofs.Ytjakhemolecbnaa
end

/-
  The walk of the law ChainLinks.
-/
section
set_option linter.unusedVariables false
set_option linter.unusedSimpArgs false
namespace Go.Proofs.Ytjakhemolecbnaa
open Go.RowKit

/-- What stands while operation k, the store into the block g, has not been done. -/
structure HeadI (w5 : World) (g k : Nat) (hd : List UInt8) (l : Array Bool) (W : World) : Prop where
  below : Below g w5 W
  lt : g < W.heap.size
  head : l.getD k false = false → Arr W g 86 (bv hd)
theorem HeadI.set {w5 : World} {g k : Nat} {hd : List UInt8} {l : Array Bool} {W : World} (h : HeadI w5 g k hd l W) (i : Nat) : HeadI w5 g k hd (l.setIfInBounds i true) W := by
  refine ⟨h.below, h.lt, fun hl => h.head ?_⟩
  rw [Array.getD_eq_getD_getElem?, Array.getElem?_setIfInBounds] at hl
  rw [Array.getD_eq_getD_getElem?]
  by_cases hi : i = k
  · subst hi
    by_cases hs : i < l.size
    · simp [hs] at hl
    · simp [hs]
  · simpa [hi] using hl
theorem op_do {P : Program} {ops : Array Oper} {Q : Exit → Act → World → Prop} {a' : Act} {w' : World} {K : Act → World → Prop} {o : Oper} {E : Prop} (hw : Region.wanted o (yielded ops a'.tmps) = true) (h : o.wp P a' w' K Q) :
    if Region.wanted o (yielded ops a'.tmps) = true then o.wp P a' w' K Q else E := by
  rw [if_pos hw]
  exact h
theorem headOf_all (F : List (List UInt8)) (n : Nat) (h : n = F.length) : F.take n = F := by rw [h]; exact List.take_length ..
theorem mkOf_map (F : List (List UInt8)) : (mkOf F).map (·.1) = F := by
  apply List.ext_getElem
  · rw [List.length_map, mkOf_length]
  · intro i h1 h2
    rw [List.getElem_map, mkOf_get F i (by rw [mkOf_length]; exact h2) h2]
theorem mkOf_take (F : List (List UInt8)) (s : List UInt8) : (mkOf (F ++ [s])).take F.length = mkOf F := by
  rw [mkOf_snoc, List.take_append_of_le_length (by rw [mkOf_length]; exact Nat.le_refl _), List.take_of_length_le (by rw [mkOf_length]; exact Nat.le_refl _)]

end Go.Proofs.Ytjakhemolecbnaa
end

/-
  The walk of the reference's Make, of the chain (under way).
-/
section
set_option linter.unusedVariables false
set_option linter.unusedSimpArgs false
namespace Go.Proofs.Ytjakhemolecbnaa
open Go.RowKit

section
variable {P : Program}
/-- A slice literal, in a region that draws. -/
theorem op_buildSlice {ops : Array Oper} {o : Oper} {a : Act} {K : Act → World → Prop} {Q : Exit → Act → World → Prop} {E : Prop} {w : World} (hw : Region.wanted o (yielded ops a.tmps) = true)
    (t e : TypeId) (len : Nat) (parts : Array (Nat × Operand)) (ho : o.op = .buildSlice t len parts) (hu : P.underlying t = some (.slice e)) (cells : Array Value)
    (hf : P.builtSlice e len (parts.map fun (i, x) => (i, a.eval x)).toList = some cells)
    (h : K (a.put o.dst (.slice (some ⟨w.heap.size, 0, none⟩) len len)) (w.alloc (.cells cells e))) : if Region.wanted o (yielded ops a.tmps) = true then o.wp P a w K Q else E := by
  rw [if_pos hw]
  unfold Program.builtSlice at hf
  cases hie : P.info? e with
  | none => rw [hie] at hf; cases hf
  | some ie =>
    rw [hie] at hf
    simp only at hf
    cases hz : ie.zero with
    | none => rw [hz] at hf; cases hf
    | some z =>
      rw [hz] at hf
      simp only at hf
      split at hf
      · cases hf
      · rename_i hc
        exact wp_buildSlice t e len parts ho cells ie z hu hie hz (fun h => hc (.inl h)) (fun h => hc (.inr h)) hf h
end

/-- What stands while operation k, the store into the block g, has not been done: nothing else is turned. -/
structure HeadU (w5 : World) (g k : Nat) (hd : List UInt8) (l : Array Bool) (W : World) : Prop where
  upd : Upd (fun q => q = g) w5 W
  lt : g < W.heap.size
  head : l.getD k false = false → Arr W g 86 (bv hd)
theorem unset {l : Array Bool} {k i : Nat} (hl : (l.setIfInBounds i true).getD k false = false) : l.getD k false = false := by
  rw [Array.getD_eq_getD_getElem?, Array.getElem?_setIfInBounds] at hl
  rw [Array.getD_eq_getD_getElem?]
  by_cases hi : i = k
  · subst hi
    by_cases hs : i < l.size
    · simp [hs] at hl
    · simp [hs]
  · simpa [hi] using hl
theorem HeadU.set {w5 : World} {g k : Nat} {hd : List UInt8} {l : Array Bool} {W : World} (h : HeadU w5 g k hd l W) (i : Nat) : HeadU w5 g k hd (l.setIfInBounds i true) W := ⟨h.upd, h.lt, fun hl => h.head (unset hl)⟩
/-- What stands while operation k, the append to vo, has not been done. -/
structure MkI (w : World) (g k : Nat) (h2 : List UInt8) (vo : Value) (i : Nat) (xs : List Value) (l : Array Bool) (W : World) : Prop where
  below : Below g w W
  arr : Arr W g 86 (bv h2)
  own : l.getD k false = false → W.ownsRow (g + 1) 88 33 vo i xs
theorem MkI.set {w : World} {g k : Nat} {h2 : List UInt8} {vo : Value} {i : Nat} {xs : List Value} {l : Array Bool} {W : World} (h : MkI w g k h2 vo i xs l W) (j : Nat) : MkI w g k h2 vo i xs (l.setIfInBounds j true) W := ⟨h.below, h.arr, fun hl => h.own (unset hl)⟩
theorem MkI.grow {w : World} {g k : Nat} {h2 : List UInt8} {vo : Value} {i : Nat} {xs : List Value} {l : Array Bool} {W W' : World} (h : MkI w g k h2 vo i xs l W) (hb : Below W.heap.size W W') : MkI w g k h2 vo i xs l W' :=
  ⟨below_below h.below (Nat.le_of_lt h.arr.lt) hb, h.arr.below hb h.arr.lt, fun hl => own_below (h.own hl) hb⟩

set_option maxRecDepth 100000 in
set_option maxHeartbeats 8000000 in
theorem refMake_any (A : Option Addr) (n c : Nat) (L : List (List UInt8)) (w : World) (hl : L.length = n) (hn : n ≤ 100000) (hs : ∀ x ∈ L, x.length ≤ 1500000) (hr : RS w A L) :
    Calls Try.prog 26 #[.slice A n c] w fun e w' => ∃ v, e = .returned v ∧ w'.ownsRow w.heap.size 88 33 v L.length (lv (mkOf L)) ∧ Below w.heap.size w w' := by
  subst hl
  have HL := Lib.hid hr
  have HSM := Lib.hid hs
  have HN := Lib.hid hn
  clear hr hs
  go_enter Try.func26, Try.ntmps26
  obtain ⟨z32, hz32⟩ : ∃ z32, z32 = (bv (List.replicate 32 0)).toArray := ⟨_, rfl⟩
  go_upto_region 2 with fail
  refine wp_region_lit ?_
  refine Great.wpList_allocTo rfl _ rfl (.pointer (some ⟨w.heap.size, 0, none⟩)) (.cells z32 86) ?x1 ?_
  case x1 => rw [hz32]; kernel_rfl
  refine wpList_nil ?_
  rename_i hK
  refine hK _ _ ?_
  clear hK
  obtain ⟨w1, hw1⟩ : ∃ w1, w1 = w.alloc (.cells z32 86) := ⟨_, rfl⟩
  rw [← hw1]
  have HA1 := Lib.hid (show Arr w1 w.heap.size 86 (bv (headOf [])) by rw [hw1, hz32]; exact Arr.new _ _ _)
  have HB1 := Lib.hid (show Below w.heap.size w w1 by rw [hw1]; exact (Below.refl _ _).alloc (Nat.le_refl _) _)
  have HS1 := Lib.hid (show w1.heap.size = w.heap.size + 1 by rw [hw1]; simp)
  clear hw1 hz32
  go_wp2_with fail
  go_loopg [3, 5] L.length (fun k s3 s5 wr => ∃ (i : Nat) (vo : Value), i ≤ L.length ∧ k = L.length - i ∧ s5 = .int .i64 (i : Int) ∧ s3 = vo ∧ wr.ownsRow (w.heap.size + 1) 88 33 vo i (lv (mkOf (L.take i))) ∧ Arr wr w.heap.size 86 (bv (headOf (L.take i))) ∧ Below w.heap.size w wr)
  case atStart => exact ⟨0, _, Nat.zero_le _, by omega, rfl, rfl, World.ownsRow_nil _ _ _ _, HA1.out, HB1.out⟩
  case round =>
    obtain ⟨i, _, hi, hk, rfl, rfl, ho, ha, hb⟩ := hrel
    have HK := Lib.hid hk
    have HO := Lib.hid ho
    have HA := Lib.hid ha
    have HB := Lib.hid hb
    clear hk ho ha hb HA1 HB1
    by_cases hlt : i < L.length
    · obtain ⟨bl, ol, rfl, e1⟩ := HL.out.parts (by rw [sv_length]; omega)
      have k1 := e1 i _ (sv_get' L i hlt)
      have hxs : (L[i]).length ≤ 1500000 := HSM.out _ (List.getElem_mem hlt)
      have HT := Lib.hid (show L.take (i + 1) = L.take i ++ [L[i]] from List.take_succ_eq_append_getElem hlt)
      have HTI := Lib.hid (show i = (L.take i).length by rw [List.length_take]; omega)
      have K1 := Lib.hid k1
      generalize L[i] = x at *
      generalize L.take i = T at *
      have HXS := Lib.hid (show (strB x).size ≤ 1500000 by rw [strB_size]; exact hxs)
      clear e1 hxs
      obtain ⟨hd, ehd⟩ : ∃ hd, hd = headOf T := ⟨_, rfl⟩
      have hhl : hd.length = 32 := by rw [ehd]; exact headOf_length T
      rw [← ehd] at HA
      obtain ⟨hc, ehc⟩ : ∃ hc, hc = (bv hd).toArray := ⟨_, rfl⟩
      have hcs : hc.size = 32 := by rw [ehc, List.size_toArray, bv_length, hhl]
      have hcz : (Try.prog.info? 86).map (·.size) = some hc.size := by rw [hcs]; exact info72
      have HAc := Lib.hid (show wr.heap[w.heap.size]? = some (.cells hc 86) by rw [ehc]; exact HA.out)
      have EHD := Lib.hid ehd
      have HHL := Lib.hid hhl
      have EHC := Lib.hid ehc
      have HCS := Lib.hid hcs
      have HCZ := Lib.hid hcz
      clear ehd hhl ehc hcs hcz
      obtain ⟨h2, eh2⟩ : ∃ h2, h2 = nextOf hd x := ⟨_, rfl⟩
      have hhl2 : h2.length = 32 := by rw [eh2]; exact nextOf_length _ _
      obtain ⟨hc2, ehc2⟩ : ∃ hc2, hc2 = (bv h2).toArray := ⟨_, rfl⟩
      have hcs2 : hc2.size = 32 := by rw [ehc2, List.size_toArray, bv_length, hhl2]
      have HCZ2 := Lib.hid (show (Try.prog.info? 86).map (·.size) = some hc2.size by rw [hcs2]; exact info72)
      have HONE2 := Lib.hid (show hc2.all (·.oneCell') = true by rw [ehc2]; exact all_oneCell_toArray (bv_one _))
      have HCS2 := Lib.hid hcs2
      have EH2 := Lib.hid eh2
      have HHL2 := Lib.hid hhl2
      have EHC2 := Lib.hid ehc2
      have HXB := Lib.hid (strB_toList x)
      obtain ⟨sx, esx⟩ : ∃ sx, sx = strB x := ⟨_, rfl⟩
      have ESX := Lib.hid esx
      rw [← esx] at HXS HXB k1
      have HST := Lib.hid (show ∀ W, Upd (fun q => q = w.heap.size) wr W → W.cell? ⟨bl, ol + i, none⟩ = some (.string sx) from fun W h => cell_below (below_upd HB.out HB.out.size h (fun k hk => by rw [hk]; exact Nat.le_refl _)) k1)
      have HGL := Lib.hid (Arr.lt HA.out)
      have hi0 : (0 : Int) ≤ (i : Int) := by omega
      have hi1 : (i : Int) < (L.length : Int) := by omega
      have hiN : (i : Int) ≤ 100000 := by have := HN.out; omega
      have HLT := Lib.hid hlt
      clear eh2 hhl2 ehc2 hcs2 esx hlt hi k1
      have HTL := Lib.hid (show T.length ≤ 100000 by have := HTI.out; omega)
      have HMS := Lib.hid (show mkOf (T ++ [x]) = mkOf T ++ [(x, h2)] by rw [mkOf_snoc, EH2.out, EHD.out])
      have hlkl := lk_length (x, h2) HHL2.out
      obtain ⟨lc, elc⟩ : ∃ lc, lc = (lk (x, h2)).toArray := ⟨_, rfl⟩
      have HF := Lib.hid (show Try.prog.built 88 [(0, .string sx), (1, .agg hc2)] = some lc by rw [elc, EHC2.out, ESX.out]; exact built_link2 x h2 HHL2.out)
      have HF1 := Lib.hid (show Try.prog.builtSlice 88 1 [(0, .agg lc)] = some lc by rw [elc]; exact built_one2 x h2 HHL2.out)
      have ELC := Lib.hid elc
      have HLK := Lib.hid hlkl
      clear hlkl elc
      go_upto_region 6 with fail
      go_cut [17] (fun s17 wx => Arr wx w.heap.size 86 (bv h2) ∧ Upd (fun q => q = w.heap.size) wr wx)
      case first =>
        refine region_byL (HeadU wr w.heap.size 6 hd) [fun v _ => v = .agg hc, (fun v _ => v = .slice (some ⟨bl, ol, none⟩) L.length c), (fun v _ => v = .int .i64 (i : Int)), (fun v _ => v = .pointer (some ⟨bl, ol + i, none⟩)), (fun v _ => v = .string sx), fun v _ => v = .agg hc2, fun _ w' => Arr w' w.heap.size 86 (bv h2)] (by kernel_rfl) (by kernel_rfl) (by kernel_rfl) rfl (⟨(Upd.refl _ _).drew, HGL.out, fun _ => HA.out.drew⟩) ?ok6 ?fin6
        case ok6 =>
          refine ⟨?_, ?_, ?_, ?_, ?_, ?_, ?_, trivial⟩
          · intro l a' w' K hI hcl hsz hn hd hq hK
            have e4 : a'.eval (.tmp 4) = .pointer (some ⟨w.heap.size, 0, none⟩) := (hq 4 (by kernel_rfl)).trans rfl
            clear hd hq
            have h6 : l.getD 6 false = false := hcl 6 0 (by kernel_rfl) hn
            have hrow : w'.heap[w.heap.size]? = some (.cells hc 86) := by rw [EHC.out]; exact hI.head h6
            refine op_value (wanted_free _ _ (by rfl)) (v := .agg hc) (w'' := w') ?_ (hK _ _ (hI.set _) (fun _ _ h => h) rfl)
            simp only [execOp, e4, Instr.loadAt, Instr.sureAddr, Sem.run_bind, Sem.run_pure, Result.andThen_ok, run_loadVar_row w' w.heap.size 86 86 hc (0, 0) _ hrow Try.underlying86 rfl HCZ.out]
          · intro l a' w' K hI hcl hsz hn hd hq hK
            have e0 : a'.eval (.tmp 0) = .slice (some ⟨bl, ol, none⟩) L.length c := (hq 0 (by kernel_rfl)).trans rfl
            clear hd hq hcl hsz hn
            refine op_value (wanted_free _ _ (by rfl)) (v := .slice (some ⟨bl, ol, none⟩) L.length c) (w'' := w') ?_ (hK _ _ (hI.set _) (fun _ _ h => h) rfl)
            clear hK
            simp only [execOp, e0]
            have f0 : a'.tmps[0]?.getD undef = .slice (some ⟨bl, ol, none⟩) L.length c := (Array.getD_eq_getD_getElem? ..).symm.trans e0
            clear e0
            first | rfl | (go_simp <;> exact IntWalk.i64_in _ (by omega))
          · intro l a' w' K hI hcl hsz hn hd hq hK
            have e5 : a'.eval (.tmp 5) = .int .i64 (i : Int) := (hq 5 (by kernel_rfl)).trans rfl
            clear hd hq hcl hsz hn
            refine op_value (wanted_free _ _ (by rfl)) (v := .int .i64 (i : Int)) (w'' := w') ?_ (hK _ _ (hI.set _) (fun _ _ h => h) rfl)
            clear hK
            simp only [execOp, e5]
            have f5 : a'.tmps[5]?.getD undef = .int .i64 (i : Int) := (Array.getD_eq_getD_getElem? ..).symm.trans e5
            clear e5
            first | rfl | (go_simp <;> exact IntWalk.i64_in _ (by omega))
          · intro l a' w' K hI hcl hsz hn hd hq hK
            have e13 : a'.eval (.tmp 13) = .slice (some ⟨bl, ol, none⟩) L.length c := (hd 1 13 (by kernel_rfl))
            have e14 : a'.eval (.tmp 14) = .int .i64 (i : Int) := (hd 2 14 (by kernel_rfl))
            clear hd hq hcl hsz hn
            refine op_value (wanted_free _ _ (by rfl)) (v := .pointer (some ⟨bl, ol + i, none⟩)) (w'' := w') ?_ (hK _ _ (hI.set _) (fun _ _ h => h) rfl)
            clear hK
            simp only [execOp, e13, e14]
            have f13 : a'.tmps[13]?.getD undef = .slice (some ⟨bl, ol, none⟩) L.length c := (Array.getD_eq_getD_getElem? ..).symm.trans e13
            have f14 : a'.tmps[14]?.getD undef = .int .i64 (i : Int) := (Array.getD_eq_getD_getElem? ..).symm.trans e14
            clear e13 e14
            first | rfl | (go_simp <;> exact IntWalk.i64_in _ (by omega))
          · intro l a' w' K hI hcl hsz hn hd hq hK
            have e15 : a'.eval (.tmp 15) = .pointer (some ⟨bl, ol + i, none⟩) := (hd 3 15 (by kernel_rfl))
            clear hd hq hcl hsz hn
            have hst := HST.out w' hI.upd
            refine op_value (wanted_free _ _ (by rfl)) (v := .string sx) (w'' := w') ?_ (hK _ _ (hI.set _) (fun _ _ h => h) rfl)
            clear hK
            simp only [execOp, e15]
            have f15 : a'.tmps[15]?.getD undef = .pointer (some ⟨bl, ol + i, none⟩) := (Array.getD_eq_getD_getElem? ..).symm.trans e15
            clear e15
            first | rfl | (go_simp <;> exact IntWalk.i64_in _ (by omega))
          · intro l a' w' K hI hcl hsz hn hd hq hK
            have e12 : a'.eval (.tmp 12) = .agg hc := (hd 0 12 (by kernel_rfl))
            have e16 : a'.eval (.tmp 16) = .string sx := (hd 4 16 (by kernel_rfl))
            clear hd hq
            have h6 : l.getD 6 false = false := hcl 6 5 (by kernel_rfl) hn
            refine op_call #[.agg hc, .string sx] (wanted_free _ _ (by rfl)) rfl Try.func51 (by kernel_rfl) rfl (by simp [e12, e16]) ?_
            rw [EHC.out]
            refine (refNext_any hd sx w' HHL.out HXS.out).mono ?_
            rw [HXB.out, ← EH2.out, ← EHC2.out]
            rintro e w6 ⟨rfl, hb⟩
            have hI2 : HeadU wr w.heap.size 6 hd l w6 := ⟨hI.upd.below hb, Nat.lt_of_lt_of_le hI.lt hb.size, fun h => (hI.head h).below hb hI.lt⟩
            refine ⟨_, rfl, hK _ _ (hI2.set _) (fun j u => by match j with | 6 => exact fun h => Arr.below h hb hI.lt | 0 | 1 | 2 | 3 | 4 | 5 => exact fun h => h | _ + 7 => exact fun _ => trivial) rfl⟩
          · intro l a' w' K hI hcl hsz hn hd hq hK
            have e4 : a'.eval (.tmp 4) = .pointer (some ⟨w.heap.size, 0, none⟩) := (hq 4 (by kernel_rfl)).trans rfl
            have e17 : a'.eval (.tmp 17) = .agg hc2 := (hd 5 17 (by kernel_rfl))
            clear hd hq
            have hrow : w'.heap[w.heap.size]? = some (.cells hc 86) := by rw [EHC.out]; exact hI.head hn
            have hnew : Arr (w'.setRow w.heap.size hc2) w.heap.size 86 (bv h2) := by
              have h := setRow_heap w' w.heap.size _ hc2 _ _ hrow
              rw [EHC2.out] at h ⊢
              exact h
            have hI2 : HeadU wr w.heap.size 6 hd (l.setIfInBounds 6 true) (w'.setRow w.heap.size hc2) := ⟨upd_setRow hI.upd w.heap.size hc2 (fun _ => rfl), hnew.lt, fun h => by
              exfalso
              rw [Array.getD_eq_getD_getElem?, Array.getElem?_setIfInBounds, if_pos rfl, if_pos (by rw [hsz]; exact of_decide_eq_true (by kernel_rfl))] at h
              simp at h⟩
            refine op_do (wanted_free _ _ (by rfl)) ?_
            refine wp_store_row 86 _ _ rfl w.heap.size hc2 e4 e17 86 hc hrow HCZ2.out (by rw [HCS.out, HCS2.out]) HONE2.out ?_
            exact hK undef _ hI2 (fun j u => by match j with | 6 => exact fun _ => hnew | 0 | 1 | 2 | 3 | 4 | 5 => exact fun h => h | _ + 7 => exact fun _ => trivial) hnew
        case fin6 =>
          rintro l w' hsz hall hI _ rfl _ rfl _ rfl _ rfl _ rfl _ rfl _ hst6
          simp only [Act.put, List.setIfInBounds_toArray, List.set_cons_zero, List.set_cons_succ, FinGoal]
          go_wp2_with fail
          go_meet
          exact ⟨hst6, hI.upd⟩
      case rest =>
        obtain ⟨hA6, hU6⟩ := hcut
        have HA6 := Lib.hid hA6
        have HB6 := Lib.hid (below_upd HB.out HB.out.size hU6 (fun k hk => by rw [hk]; exact Nat.le_refl _))
        have HO6 := Lib.hid (show wc.ownsRow (w.heap.size + 1) 88 33 u3 T.length (lv (mkOf T)) by have h := own_upd HO.out hU6 (fun k hk e => by have := (World.ownsRow.lt HO.out k hk).1; omega); rwa [HTI.out] at h)
        have HST7 := Lib.hid (show ∀ W, Below w.heap.size w W → W.cell? ⟨bl, ol + i, none⟩ = some (.string sx) from fun W h => cell_below h (by rw [ESX.out]; exact K1.out))
        clear hA6 hU6
        go_upto_region 7 with fail
        refine region_byM (MkI w w.heap.size 8 h2 u3 T.length (lv (mkOf T))) [fun v _ => v = u3, (fun v _ => v = .slice (some ⟨bl, ol, none⟩) L.length c), (fun v _ => v = .int .i64 (i : Int)), (fun v _ => v = .pointer (some ⟨bl, ol + i, none⟩)), (fun v _ => v = .string sx), fun v _ => v = .agg hc2, fun v _ => v = .agg lc, fun v w' => ∃ gN, v = .slice (some ⟨gN, 0, none⟩) 1 1 ∧ RC w' (some ⟨gN, 0, none⟩) (lk (x, h2)) ∧ u3.ownBlock ≠ some gN ∧ w.heap.size + 1 ≤ w'.heap.size, fun v w' => w'.ownsRow (w.heap.size + 1) 88 33 v (T.length + 1) (lv (mkOf (T ++ [x]))), fun v w' => w'.ownsRow (w.heap.size + 1) 88 33 v (T.length + 1) (lv (mkOf (T ++ [x])))] (by kernel_rfl) (by kernel_rfl) (by kernel_rfl) rfl (⟨HB6.out.drew, HA6.out.drew, fun _ => HO6.out.drew⟩) ?ok7 ?fin7
        case ok7 =>
          refine ⟨?_, ?_, ?_, ?_, ?_, ?_, ?_, ?_, ?_, ?_, trivial⟩
          · intro l a' w' K hI hcl hsz hn hd hq hK
            have e3 : a'.eval (.tmp 3) = u3 := (hq 3 (by kernel_rfl)).trans rfl
            clear hd hq
            refine op_value (wanted_free _ _ (by rfl)) (v := u3) (w'' := w') ?_ (hK _ _ (hI.set _) (fun _ _ _ h => h) rfl)
            simp only [execOp, e3, Sem.run_pure]
          · intro l a' w' K hI hcl hsz hn hd hq hK
            have e0 : a'.eval (.tmp 0) = .slice (some ⟨bl, ol, none⟩) L.length c := (hq 0 (by kernel_rfl)).trans rfl
            clear hd hq hcl hsz hn
            refine op_value (wanted_free _ _ (by rfl)) (v := .slice (some ⟨bl, ol, none⟩) L.length c) (w'' := w') ?_ (hK _ _ (hI.set _) (fun _ _ _ h => h) rfl)
            clear hK
            simp only [execOp, e0]
            have f0 : a'.tmps[0]?.getD undef = .slice (some ⟨bl, ol, none⟩) L.length c := (Array.getD_eq_getD_getElem? ..).symm.trans e0
            clear e0
            first | rfl | (go_simp <;> exact IntWalk.i64_in _ (by omega))
          · intro l a' w' K hI hcl hsz hn hd hq hK
            have e5 : a'.eval (.tmp 5) = .int .i64 (i : Int) := (hq 5 (by kernel_rfl)).trans rfl
            clear hd hq hcl hsz hn
            refine op_value (wanted_free _ _ (by rfl)) (v := .int .i64 (i : Int)) (w'' := w') ?_ (hK _ _ (hI.set _) (fun _ _ _ h => h) rfl)
            clear hK
            simp only [execOp, e5]
            have f5 : a'.tmps[5]?.getD undef = .int .i64 (i : Int) := (Array.getD_eq_getD_getElem? ..).symm.trans e5
            clear e5
            first | rfl | (go_simp <;> exact IntWalk.i64_in _ (by omega))
          · intro l a' w' K hI hcl hsz hn hd hq hK
            have e19 : a'.eval (.tmp 19) = .slice (some ⟨bl, ol, none⟩) L.length c := (hd 1 19 (by kernel_rfl))
            have e20 : a'.eval (.tmp 20) = .int .i64 (i : Int) := (hd 2 20 (by kernel_rfl))
            clear hd hq hcl hsz hn
            refine op_value (wanted_free _ _ (by rfl)) (v := .pointer (some ⟨bl, ol + i, none⟩)) (w'' := w') ?_ (hK _ _ (hI.set _) (fun _ _ _ h => h) rfl)
            clear hK
            simp only [execOp, e19, e20]
            have f19 : a'.tmps[19]?.getD undef = .slice (some ⟨bl, ol, none⟩) L.length c := (Array.getD_eq_getD_getElem? ..).symm.trans e19
            have f20 : a'.tmps[20]?.getD undef = .int .i64 (i : Int) := (Array.getD_eq_getD_getElem? ..).symm.trans e20
            clear e19 e20
            first | rfl | (go_simp <;> exact IntWalk.i64_in _ (by omega))
          · intro l a' w' K hI hcl hsz hn hd hq hK
            have e21 : a'.eval (.tmp 21) = .pointer (some ⟨bl, ol + i, none⟩) := (hd 3 21 (by kernel_rfl))
            clear hd hq hcl hsz hn
            have hst := HST7.out w' hI.below
            refine op_value (wanted_free _ _ (by rfl)) (v := .string sx) (w'' := w') ?_ (hK _ _ (hI.set _) (fun _ _ _ h => h) rfl)
            clear hK
            simp only [execOp, e21]
            have f21 : a'.tmps[21]?.getD undef = .pointer (some ⟨bl, ol + i, none⟩) := (Array.getD_eq_getD_getElem? ..).symm.trans e21
            clear e21
            first | rfl | (go_simp <;> exact IntWalk.i64_in _ (by omega))
          · intro l a' w' K hI hcl hsz hn hd hq hK
            have e4 : a'.eval (.tmp 4) = .pointer (some ⟨w.heap.size, 0, none⟩) := (hq 4 (by kernel_rfl)).trans rfl
            clear hd hq
            have hrow : w'.heap[w.heap.size]? = some (.cells hc2 86) := by rw [EHC2.out]; exact hI.arr
            refine op_value (wanted_free _ _ (by rfl)) (v := .agg hc2) (w'' := w') ?_ (hK _ _ (hI.set _) (fun _ _ _ h => h) rfl)
            simp only [execOp, e4, Instr.loadAt, Instr.sureAddr, Sem.run_bind, Sem.run_pure, Result.andThen_ok, run_loadVar_row w' w.heap.size 86 86 hc2 (0, 0) _ hrow Try.underlying86 rfl HCZ2.out]
          · intro l a' w' K hI hcl hsz hn hd hq hK
            have e22 : a'.eval (.tmp 22) = .string sx := (hd 4 22 (by kernel_rfl))
            have e23 : a'.eval (.tmp 23) = .agg hc2 := (hd 5 23 (by kernel_rfl))
            clear hd hq
            refine op_do (wanted_free _ _ (by rfl)) ?_
            have hbt : Try.prog.built 88 ((#[(0, Operand.tmp 22), (1, Operand.tmp 23)] : Array (Nat × Operand)).map fun (i, x) => (i, a'.eval x)).toList = some lc := by simp only [List.map_toArray, List.map_cons, List.map_nil, e22, e23]; exact HF.out
            refine wp_build 88 _ rfl (by rw [hbt]; rfl) ?_
            rw [hbt]
            exact hK _ _ (hI.set _) (fun _ _ _ h => h) rfl
          · intro l a' w' K hI hcl hsz hn hd hq hK
            have e24 : a'.eval (.tmp 24) = .agg lc := (hd 6 24 (by kernel_rfl))
            clear hd hq
            have h8 : l.getD 8 false = false := hcl 8 7 (by kernel_rfl) hn
            have hb7 : Below w'.heap.size w' (w'.alloc (.cells lc 88)) := (Below.refl _ _).alloc (Nat.le_refl _) _
            have hlt := hI.arr.lt
            have h9 : l.getD 9 false = false := hcl 9 8 (by kernel_rfl) h8
            refine op_buildSlice (wanted_free _ _ (by rfl)) 65 88 1 _ rfl Try.underlying65 lc (by simp only [List.map_toArray, List.map_cons, List.map_nil, e24]; exact HF1.out) ?_
            refine hK _ _ ((hI.grow hb7).set _) (fun j u => by match j with | 7 => exact fun hl _ => absurd hl (by rw [hn]; decide) | 8 => exact fun hl _ => absurd hl (by rw [h8]; decide) | 9 => exact fun hl _ => absurd hl (by rw [h9]; decide) | 0 | 1 | 2 | 3 | 4 | 5 | 6 => exact fun _ h => h | _ + 10 => exact fun _ _ => trivial) ⟨w'.heap.size, rfl, by rw [ELC.out]; exact RC_newL w' (lk (x, h2)) _, fun e => ?_, by simp; omega⟩
            have := ((hI.own h8).lt _ e).2
            omega
          · intro l a' w' K hI hcl hsz hn hd hq hK
            have e18 : a'.eval (.tmp 18) = u3 := (hd 0 18 (by kernel_rfl))
            have e25 := hd 7 25 (by kernel_rfl)
            clear hd hq
            obtain ⟨gN, e25, hrc, hng, hsz1⟩ := (show ∃ gN, a'.eval (.tmp 25) = .slice (some ⟨gN, 0, none⟩) 1 1 ∧ RC w' (some ⟨gN, 0, none⟩) (lk (x, h2)) ∧ u3.ownBlock ≠ some gN ∧ w.heap.size + 1 ≤ w'.heap.size from e25)
            refine step_append_any rfl (.tmp 18) (.tmp 25) 65 rfl (w.heap.size + 1) 88 (.agg (lk ([], hd0)).toArray) 33 48 Try.underlying65 infoLkr (by kernel_rfl) (by omega) (by omega) u3 T.length (lv (mkOf T)) e18 (hI.own hn) (some ⟨gN, 0, none⟩) 1 1 (lk (x, h2)) e25 (by rw [HLK.out]) hrc (lk_one _) (by have := HTL.out; omega) hsz1 ?_
            intro v9 w9 ho9 hg9 hat9
            have hu9 : Upd (fun k => u3.ownBlock = some k) w' w9 := (Upd.refl _ w').grown hg9 (fun k hk _ => hk)
            have hbase : ∀ k, u3.ownBlock = some k → w.heap.size + 1 ≤ k := fun k hk => ((hI.own hn).lt k hk).1
            have hI2 : MkI w w.heap.size 8 h2 u3 T.length (lv (mkOf T)) (l.setIfInBounds 8 true) w9 := ⟨below_upd hI.below (by omega) hu9 (fun k hk => by have := hbase k hk; omega), hI.arr.upd hu9 (fun e => by have := hbase _ e; omega), fun h => by
              exfalso
              rw [Array.getD_eq_getD_getElem?, Array.getElem?_setIfInBounds, if_pos rfl, if_pos (by rw [hsz]; exact of_decide_eq_true (by kernel_rfl))] at h
              simp at h⟩
            have hres : w9.ownsRow (w.heap.size + 1) 88 33 v9 (T.length + 1) (lv (mkOf (T ++ [x]))) := by rw [HMS.out, lv_snoc]; exact ho9
            have h9 : l.getD 9 false = false := hcl 9 8 (by kernel_rfl) hn
            exact hK _ _ hI2 (fun j u => by match j with | 7 => exact fun _ ⟨gN, h1, h2, h3, h4⟩ => ⟨gN, h1, h2.upd hu9 (fun _ ad e => by cases e; exact h3), h3, Nat.le_trans h4 hu9.size⟩ | 8 => exact fun hl _ => absurd hl (by rw [hn]; decide) | 9 => exact fun hl _ => absurd hl (by rw [h9]; decide) | 0 | 1 | 2 | 3 | 4 | 5 | 6 => exact fun _ h => h | _ + 10 => exact fun _ _ => trivial) hres
          · intro l a' w' K hI hcl hsz hn hd hq hK
            have e26 := hd 8 26 (by kernel_rfl)
            clear hd hq
            refine op_value (wanted_free _ _ (by rfl)) (v := a'.eval (.tmp 26)) (w'' := w') ?_ (hK _ _ (hI.set _) (fun _ _ _ h => h) e26)
            simp only [execOp, Sem.run_pure]
        case fin7 =>
          rintro l w' hsz hall hI _ rfl _ rfl _ rfl _ rfl _ rfl _ rfl _ rfl _ ⟨gN, rfl, _⟩ _ hst8 v9 hst9
          simp only [Act.put, List.setIfInBounds_toArray, List.set_cons_zero, List.set_cons_succ, FinGoal]
          have HI := Lib.hid hI
          have HS9 := Lib.hid hst9
          clear hI hst9
          go_wp2_with fail
          go_roundg (L.length - (i + 1))
          case measure => have := HK.out; have := HLT.out; omega
          case rel => exact ⟨i + 1, _, HLT.out, rfl, by go_num, rfl, by rw [HT.out, HTI.out]; exact HS9.out, by rw [HT.out, headOf_snoc, ← EHD.out, ← EH2.out]; exact HI.out.arr, HI.out.below⟩
    · obtain rfl : i = L.length := by omega
      rw [List.take_length] at HO HA
      go_wp2_with fail
      go_ret
      exact ⟨_, rfl, own_lower HO.out (by omega), HB.out⟩

end Go.Proofs.Ytjakhemolecbnaa
end

/-
  The walk of the reference's Check, on any links.
-/
section
set_option linter.unusedVariables false
set_option linter.unusedSimpArgs false
namespace Go.Proofs.Ytjakhemolecbnaa
open Go.RowKit

set_option maxRecDepth 100000 in
set_option maxHeartbeats 8000000 in
theorem refCheck_any (A : Option Addr) (n c : Nat) (M : List (List UInt8 × List UInt8)) (w : World) (hl : M.length = n) (hn : n ≤ 100000) (hs : ∀ x ∈ M, x.1.length ≤ 1000000) (hh : ∀ x ∈ M, x.2.length = 32) (hr : RC w A (lv M)) :
    Calls Try.prog 64 #[.slice A n c] w fun e w' => e = .returned (.int .i64 (checkOf M : Int)) ∧ Below w.heap.size w w' := by
  subst hl
  obtain ⟨K, eK⟩ : ∃ K, K = checkOf M := ⟨_, rfl⟩
  rw [← eK]
  have EK := Lib.hid eK
  have HH := Lib.hid hh
  clear eK hh
  have HL := Lib.hid hr
  have HSM := Lib.hid hs
  have HN := Lib.hid hn
  clear hr hs
  obtain ⟨z32, hz32⟩ : ∃ z32, z32 = (bv (List.replicate 32 0)).toArray := ⟨_, rfl⟩
  go_enter Try.func64, Try.ntmps64
  go_upto_region 1 with fail
  refine wp_region_lit ?_
  refine Great.wpList_allocTo rfl _ rfl (.pointer (some ⟨w.heap.size, 0, none⟩)) (.cells z32 86) ?x1 ?_
  case x1 => rw [hz32]; kernel_rfl
  refine wpList_nil ?_
  rename_i hK
  refine hK _ _ ?_
  clear hK
  obtain ⟨w1, hw1⟩ : ∃ w1, w1 = w.alloc (.cells z32 86) := ⟨_, rfl⟩
  rw [← hw1]
  have HA1 := Lib.hid (show Arr w1 w.heap.size 86 (bv (headOf [])) by rw [hw1, hz32]; exact Arr.new _ _ _)
  have HB1 := Lib.hid (show Below w.heap.size w w1 by rw [hw1]; exact (Below.refl _ _).alloc (Nat.le_refl _) _)
  clear hw1 hz32
  go_wp2_with fail
  go_loopg [4] M.length (fun k s4 wr => ∃ i : Nat, i ≤ M.length ∧ k = M.length - i ∧ s4 = .int .i64 (i : Int) ∧ Arr wr w.heap.size 86 (bv (headOf ((M.take i).map (·.1)))) ∧ (∀ j, j < i → goodAt M j = true) ∧ Below w.heap.size w wr)
  case atStart => exact ⟨0, Nat.zero_le _, by omega, rfl, HA1.out, fun j hj => absurd hj (Nat.not_lt_zero _), HB1.out⟩
  case round =>
    obtain ⟨i, hi, hk, rfl, ha, hgd, hb⟩ := hrel
    have HK := Lib.hid hk
    have HGD := Lib.hid hgd
    have HA := Lib.hid ha
    have HB := Lib.hid hb
    clear hk ha hb hgd HA1 HB1
    by_cases hlt : i < M.length
    · obtain ⟨bl, ol, rfl, e1⟩ := HL.out.parts (by rw [lv_length _ HH.out]; omega)
      have hRG := lk_range HH.out e1 i hlt
      have hxs : (M[i]).1.length ≤ 1000000 := HSM.out _ (List.getElem_mem hlt)
      have hgl : (M[i]).2.length = 32 := HH.out _ (List.getElem_mem hlt)
      have hT : (M.take (i + 1)).map (·.1) = (M.take i).map (·.1) ++ [(M[i]).1] := by rw [List.take_succ_eq_append_getElem hlt, List.map_append]; rfl
      have hq : goodAt M i = decide ((M[i]).2 = nextOf (headOf ((M.take i).map (·.1))) (M[i]).1) := by
        unfold goodAt
        rw [hT, headOf_snoc, List.getD_eq_getElem?_getD, List.getElem?_eq_getElem hlt]
        rfl
      have HT := Lib.hid (show headOf ((M.take (i + 1)).map (·.1)) = nextOf (headOf ((M.take i).map (·.1))) (M[i]).1 by rw [hT, headOf_snoc])
      generalize M[i] = xg at *
      obtain ⟨x, g⟩ := xg
      simp only at hxs hgl hq HT
      obtain ⟨hd, ehd⟩ : ∃ hd, hd = headOf ((M.take i).map (·.1)) := ⟨_, rfl⟩
      have hhl : hd.length = 32 := by rw [ehd]; exact headOf_length _
      rw [← ehd] at HA hq HT
      obtain ⟨h2, eh2⟩ : ∃ h2, h2 = nextOf hd x := ⟨_, rfl⟩
      have hhl2 : h2.length = 32 := by rw [eh2]; exact nextOf_length _ _
      rw [← eh2] at hq HT
      have HRM := Lib.hid (show ∀ W, Below w.heap.size w W → W.rangeAt bl (ol + i * 33 + 1) (bv g) from fun W h j v hj => by
        have := cell_below h (hRG (j + 1) v (by simpa [lk] using hj))
        rwa [show ol + i * 33 + (j + 1) = ol + i * 33 + 1 + j by omega] at this)
      have hs0 : ∀ W, Below w.heap.size w W → W.cell? ⟨bl, ol + i * 33, none⟩ = some (.string (strB x)) := fun W h => cell_below h (hRG 0 _ rfl)
      obtain ⟨hc, ehc⟩ : ∃ hc, hc = (bv hd).toArray := ⟨_, rfl⟩
      have hcs : hc.size = 32 := by rw [ehc, List.size_toArray, bv_length, hhl]
      have hcz : (Try.prog.info? 86).map (·.size) = some hc.size := by rw [hcs]; exact info72
      obtain ⟨hc2, ehc2⟩ : ∃ hc2, hc2 = (bv h2).toArray := ⟨_, rfl⟩
      have hcs2 : hc2.size = 32 := by rw [ehc2, List.size_toArray, bv_length, hhl2]
      have hcz2 : (Try.prog.info? 86).map (·.size) = some hc2.size := by rw [hcs2]; exact info72
      have hone2 : hc2.all (·.oneCell') = true := by rw [ehc2]; exact all_oneCell_toArray (bv_one _)
      obtain ⟨gc, egc⟩ : ∃ gc, gc = (bv g).toArray := ⟨_, rfl⟩
      obtain ⟨qq, eq⟩ : ∃ qq, qq = goodAt M i := ⟨_, rfl⟩
      have HEQ := Lib.hid (show ∀ W, (Op.equalIn 10000 86 (.agg hc2) (.agg gc)).run Try.prog W = .ok qq W by
        intro W
        rw [egc, ehc2, eq32 h2 g hhl2 hgl, eq, hq]
        congr 1
        exact decide_eq_decide.2 ⟨fun h => h.symm, fun h => h.symm⟩)
      have EGC := Lib.hid egc
      have HGLN := Lib.hid hgl
      have EQ := Lib.hid eq
      have HGL := Lib.hid (Arr.lt HA.out)
      clear egc hgl eq hq hT
      have hi0 : (0 : Int) ≤ (i : Int) := by omega
      have hi1 : (i : Int) < (M.length : Int) := by omega
      have HXS := Lib.hid (show (strB x).size ≤ 1000000 by rw [strB_size]; exact hxs)
      have HLT := Lib.hid hlt
      have HHL := Lib.hid hhl
      have HHL2 := Lib.hid hhl2
      have EHC := Lib.hid ehc
      have HCS := Lib.hid hcs
      have HCZ := Lib.hid hcz
      have EHC2 := Lib.hid ehc2
      have HCS2 := Lib.hid hcs2
      have HCZ2 := Lib.hid hcz2
      have HONE2 := Lib.hid hone2
      have EH2 := Lib.hid eh2
      have HXB := Lib.hid (strB_toList x)
      obtain ⟨sx, esx⟩ : ∃ sx, sx = strB x := ⟨_, rfl⟩
      rw [← esx] at HXS HXB hs0
      have HST := Lib.hid (show ∀ W, Upd (fun q => q = w.heap.size) wr W → W.cell? ⟨bl, ol + i * 33, none⟩ = some (.string sx) from fun W h => hs0 W (below_upd HB.out HB.out.size h (fun k hk => by rw [hk]; exact Nat.le_refl _)))
      clear e1 hRG hxs ehd hhl eh2 hhl2 ehc hcs hcz ehc2 hcs2 hcz2 hone2 hlt hi hs0 esx
      go_upto_region 5 with fail
      go_cut [17] (fun s17 wx => Arr wx w.heap.size 86 (bv h2) ∧ Upd (fun q => q = w.heap.size) wr wx)
      case first =>
        refine region_byL (HeadU wr w.heap.size 7 hd) [fun v _ => v = .agg hc, (fun v _ => v = .slice (some ⟨bl, ol, none⟩) M.length c), (fun v _ => v = .int .i64 (i : Int)), (fun v _ => v = .pointer (some ⟨bl, ol + i * 33, none⟩)), (fun v _ => v = .pointer (some ⟨bl, ol + i * 33, none⟩)), (fun v _ => v = .string sx), fun v _ => v = .agg hc2, fun _ w' => Arr w' w.heap.size 86 (bv h2)] (by kernel_rfl) (by kernel_rfl) (by kernel_rfl) rfl (⟨(Upd.refl _ _).drew, HGL.out, fun _ => HA.out.drew⟩) ?ok5 ?fin5
        case ok5 =>
          refine ⟨?_, ?_, ?_, ?_, ?_, ?_, ?_, ?_, trivial⟩
          · intro l a' w' K hI hcl hsz hn hd hq hK
            have e3 : a'.eval (.tmp 3) = .pointer (some ⟨w.heap.size, 0, none⟩) := (hq 3 (by kernel_rfl)).trans rfl
            clear hd hq
            have h6 : l.getD 7 false = false := hcl 7 0 (by kernel_rfl) hn
            have hrow : w'.heap[w.heap.size]? = some (.cells hc 86) := by rw [EHC.out]; exact hI.head h6
            refine op_value (wanted_free _ _ (by rfl)) (v := .agg hc) (w'' := w') ?_ (hK _ _ (hI.set _) (fun _ _ h => h) rfl)
            simp only [execOp, e3, Instr.loadAt, Instr.sureAddr, Sem.run_bind, Sem.run_pure, Result.andThen_ok, run_loadVar_row w' w.heap.size 86 86 hc (0, 0) _ hrow Try.underlying86 rfl HCZ.out]
          · intro l a' w' K hI hcl hsz hn hd hq hK
            have e0 : a'.eval (.tmp 0) = .slice (some ⟨bl, ol, none⟩) M.length c := (hq 0 (by kernel_rfl)).trans rfl
            clear hd hq hcl hsz hn
            refine op_value (wanted_free _ _ (by rfl)) (v := .slice (some ⟨bl, ol, none⟩) M.length c) (w'' := w') ?_ (hK _ _ (hI.set _) (fun _ _ h => h) rfl)
            clear hK
            simp only [execOp, e0]
            have f0 : a'.tmps[0]?.getD undef = .slice (some ⟨bl, ol, none⟩) M.length c := (Array.getD_eq_getD_getElem? ..).symm.trans e0
            clear e0
            first | rfl | (go_simp <;> exact IntWalk.i64_in _ (by omega))
          · intro l a' w' K hI hcl hsz hn hd hq hK
            have e4 : a'.eval (.tmp 4) = .int .i64 (i : Int) := (hq 4 (by kernel_rfl)).trans rfl
            clear hd hq hcl hsz hn
            refine op_value (wanted_free _ _ (by rfl)) (v := .int .i64 (i : Int)) (w'' := w') ?_ (hK _ _ (hI.set _) (fun _ _ h => h) rfl)
            clear hK
            simp only [execOp, e4]
            have f4 : a'.tmps[4]?.getD undef = .int .i64 (i : Int) := (Array.getD_eq_getD_getElem? ..).symm.trans e4
            clear e4
            first | rfl | (go_simp <;> exact IntWalk.i64_in _ (by omega))
          · intro l a' w' K hI hcl hsz hn hd hq hK
            have e12 : a'.eval (.tmp 12) = .slice (some ⟨bl, ol, none⟩) M.length c := (hd 1 12 (by kernel_rfl))
            have e13 : a'.eval (.tmp 13) = .int .i64 (i : Int) := (hd 2 13 (by kernel_rfl))
            clear hd hq hcl hsz hn
            refine op_value (wanted_free _ _ (by rfl)) (v := .pointer (some ⟨bl, ol + i * 33, none⟩)) (w'' := w') ?_ (hK _ _ (hI.set _) (fun _ _ h => h) rfl)
            clear hK
            simp only [execOp, e12, e13]
            have f12 : a'.tmps[12]?.getD undef = .slice (some ⟨bl, ol, none⟩) M.length c := (Array.getD_eq_getD_getElem? ..).symm.trans e12
            have f13 : a'.tmps[13]?.getD undef = .int .i64 (i : Int) := (Array.getD_eq_getD_getElem? ..).symm.trans e13
            clear e12 e13
            first | rfl | (go_simp <;> exact IntWalk.i64_in _ (by omega))
          · intro l a' w' K hI hcl hsz hn hd hq hK
            have e14 : a'.eval (.tmp 14) = .pointer (some ⟨bl, ol + i * 33, none⟩) := (hd 3 14 (by kernel_rfl))
            clear hd hq hcl hsz hn
            refine op_value (wanted_free _ _ (by rfl)) (v := .pointer (some ⟨bl, ol + i * 33, none⟩)) (w'' := w') ?_ (hK _ _ (hI.set _) (fun _ _ h => h) rfl)
            clear hK
            simp only [execOp, e14]
            have f14 : a'.tmps[14]?.getD undef = .pointer (some ⟨bl, ol + i * 33, none⟩) := (Array.getD_eq_getD_getElem? ..).symm.trans e14
            clear e14
            first | rfl | (go_simp <;> exact IntWalk.i64_in _ (by omega))
          · intro l a' w' K hI hcl hsz hn hd hq hK
            have e15 : a'.eval (.tmp 15) = .pointer (some ⟨bl, ol + i * 33, none⟩) := (hd 4 15 (by kernel_rfl))
            clear hd hq hcl hsz hn
            have hst := HST.out w' hI.upd
            refine op_value (wanted_free _ _ (by rfl)) (v := .string sx) (w'' := w') ?_ (hK _ _ (hI.set _) (fun _ _ h => h) rfl)
            clear hK
            simp only [execOp, e15]
            have f15 : a'.tmps[15]?.getD undef = .pointer (some ⟨bl, ol + i * 33, none⟩) := (Array.getD_eq_getD_getElem? ..).symm.trans e15
            clear e15
            first | rfl | (go_simp <;> exact IntWalk.i64_in _ (by omega))
          · intro l a' w' K hI hcl hsz hn hd hq hK
            have e11 : a'.eval (.tmp 11) = .agg hc := (hd 0 11 (by kernel_rfl))
            have e16 : a'.eval (.tmp 16) = .string sx := (hd 5 16 (by kernel_rfl))
            clear hd hq
            have h6 : l.getD 7 false = false := hcl 7 6 (by kernel_rfl) hn
            refine op_call #[.agg hc, .string sx] (wanted_free _ _ (by rfl)) rfl Try.func51 (by kernel_rfl) rfl (by simp [e11, e16]) ?_
            rw [EHC.out]
            refine (refNext_any hd sx w' HHL.out (Nat.le_trans HXS.out (by decide))).mono ?_
            rw [HXB.out, ← EH2.out, ← EHC2.out]
            rintro e w6 ⟨rfl, hb⟩
            have hI2 : HeadU wr w.heap.size 7 hd l w6 := ⟨hI.upd.below hb, Nat.lt_of_lt_of_le hI.lt hb.size, fun h => (hI.head h).below hb hI.lt⟩
            refine ⟨_, rfl, hK _ _ (hI2.set _) (fun j u => by match j with | 7 => exact fun h => Arr.below h hb hI.lt | 0 | 1 | 2 | 3 | 4 | 5 | 6 => exact fun h => h | _ + 8 => exact fun _ => trivial) rfl⟩
          · intro l a' w' K hI hcl hsz hn hd hq hK
            have e3 : a'.eval (.tmp 3) = .pointer (some ⟨w.heap.size, 0, none⟩) := (hq 3 (by kernel_rfl)).trans rfl
            have e17 : a'.eval (.tmp 17) = .agg hc2 := (hd 6 17 (by kernel_rfl))
            clear hd hq
            have hrow : w'.heap[w.heap.size]? = some (.cells hc 86) := by rw [EHC.out]; exact hI.head hn
            have hnew : Arr (w'.setRow w.heap.size hc2) w.heap.size 86 (bv h2) := by
              have h := setRow_heap w' w.heap.size _ hc2 _ _ hrow
              rw [EHC2.out] at h ⊢
              exact h
            have hI2 : HeadU wr w.heap.size 7 hd (l.setIfInBounds 7 true) (w'.setRow w.heap.size hc2) := ⟨upd_setRow hI.upd w.heap.size hc2 (fun _ => rfl), hnew.lt, fun h => by
              exfalso
              rw [Array.getD_eq_getD_getElem?, Array.getElem?_setIfInBounds, if_pos rfl, if_pos (by rw [hsz]; exact of_decide_eq_true (by kernel_rfl))] at h
              simp at h⟩
            refine op_do (wanted_free _ _ (by rfl)) ?_
            refine wp_store_row 86 _ _ rfl w.heap.size hc2 e3 e17 86 hc hrow HCZ2.out (by rw [HCS.out, HCS2.out]) HONE2.out ?_
            exact hK undef _ hI2 (fun j u => by match j with | 7 => exact fun _ => hnew | 0 | 1 | 2 | 3 | 4 | 5 | 6 => exact fun h => h | _ + 8 => exact fun _ => trivial) hnew
        case fin5 =>
          rintro l w' hsz hall hI _ rfl _ rfl _ rfl _ rfl _ rfl _ rfl _ rfl _ hst6
          simp only [Act.put, List.setIfInBounds_toArray, List.set_cons_zero, List.set_cons_succ, FinGoal]
          go_wp2_with fail
          go_meet
          exact ⟨hst6, hI.upd⟩
      case rest =>
        obtain ⟨hA6, hU6⟩ := hcut
        have HA6 := Lib.hid hA6
        have HB6 := Lib.hid (below_upd HB.out HB.out.size hU6 (fun k hk => by rw [hk]; exact Nat.le_refl _))
        clear hA6 hU6
        go_upto_region 6 with fail
        refine region_by (fun W => W = wc.drew) [fun v _ => v = .agg hc2, (fun v _ => v = .slice (some ⟨bl, ol, none⟩) M.length c), (fun v _ => v = .int .i64 (i : Int)), (fun v _ => v = .pointer (some ⟨bl, ol + i * 33, none⟩)), (fun v _ => v = .pointer (some ⟨bl, ol + i * 33 + 1, none⟩)), fun v _ => v = .agg gc, fun v _ => v = .bool (!qq)] (by kernel_rfl) (by kernel_rfl) (by kernel_rfl) rfl (rfl) ?ok6 ?fin6
        case ok6 =>
          refine ⟨?_, ?_, ?_, ?_, ?_, ?_, ?_, trivial⟩
          · intro a' w' K hI hd hq hK
            have e3 : a'.eval (.tmp 3) = .pointer (some ⟨w.heap.size, 0, none⟩) := (hq 3 (by kernel_rfl)).trans rfl
            clear hd hq
            subst hI
            have hrow : wc.drew.heap[w.heap.size]? = some (.cells hc2 86) := by rw [EHC2.out]; exact HA6.out.drew
            refine op_value (wanted_free _ _ (by rfl)) (v := .agg hc2) (w'' := wc.drew) ?_ (hK _ _ rfl (fun _ _ h => h) rfl)
            simp only [execOp, e3, Instr.loadAt, Instr.sureAddr, Sem.run_bind, Sem.run_pure, Result.andThen_ok, run_loadVar_row wc.drew w.heap.size 86 86 hc2 (0, 0) _ hrow Try.underlying86 rfl HCZ2.out]
          · intro a' w' K hI hd hq hK
            have e0 : a'.eval (.tmp 0) = .slice (some ⟨bl, ol, none⟩) M.length c := (hq 0 (by kernel_rfl)).trans rfl
            clear hd hq
            refine op_value (wanted_free _ _ (by rfl)) (v := .slice (some ⟨bl, ol, none⟩) M.length c) (w'' := w') ?_ (hK _ _ hI (fun _ _ h => h) rfl)
            clear hK
            simp only [execOp, e0]
            have f0 : a'.tmps[0]?.getD undef = .slice (some ⟨bl, ol, none⟩) M.length c := (Array.getD_eq_getD_getElem? ..).symm.trans e0
            clear e0
            first | rfl | (go_simp <;> exact IntWalk.i64_in _ (by omega))
          · intro a' w' K hI hd hq hK
            have e4 : a'.eval (.tmp 4) = .int .i64 (i : Int) := (hq 4 (by kernel_rfl)).trans rfl
            clear hd hq
            refine op_value (wanted_free _ _ (by rfl)) (v := .int .i64 (i : Int)) (w'' := w') ?_ (hK _ _ hI (fun _ _ h => h) rfl)
            clear hK
            simp only [execOp, e4]
            have f4 : a'.tmps[4]?.getD undef = .int .i64 (i : Int) := (Array.getD_eq_getD_getElem? ..).symm.trans e4
            clear e4
            first | rfl | (go_simp <;> exact IntWalk.i64_in _ (by omega))
          · intro a' w' K hI hd hq hK
            have e19 : a'.eval (.tmp 19) = .slice (some ⟨bl, ol, none⟩) M.length c := (hd 1 19 (by kernel_rfl))
            have e20 : a'.eval (.tmp 20) = .int .i64 (i : Int) := (hd 2 20 (by kernel_rfl))
            clear hd hq
            refine op_value (wanted_free _ _ (by rfl)) (v := .pointer (some ⟨bl, ol + i * 33, none⟩)) (w'' := w') ?_ (hK _ _ hI (fun _ _ h => h) rfl)
            clear hK
            simp only [execOp, e19, e20]
            have f19 : a'.tmps[19]?.getD undef = .slice (some ⟨bl, ol, none⟩) M.length c := (Array.getD_eq_getD_getElem? ..).symm.trans e19
            have f20 : a'.tmps[20]?.getD undef = .int .i64 (i : Int) := (Array.getD_eq_getD_getElem? ..).symm.trans e20
            clear e19 e20
            first | rfl | (go_simp <;> exact IntWalk.i64_in _ (by omega))
          · intro a' w' K hI hd hq hK
            have e21 : a'.eval (.tmp 21) = .pointer (some ⟨bl, ol + i * 33, none⟩) := (hd 3 21 (by kernel_rfl))
            clear hd hq
            refine op_value (wanted_free _ _ (by rfl)) (v := .pointer (some ⟨bl, ol + i * 33 + 1, none⟩)) (w'' := w') ?_ (hK _ _ hI (fun _ _ h => h) rfl)
            clear hK
            simp only [execOp, e21]
            have f21 : a'.tmps[21]?.getD undef = .pointer (some ⟨bl, ol + i * 33, none⟩) := (Array.getD_eq_getD_getElem? ..).symm.trans e21
            clear e21
            first | rfl | (go_simp <;> exact IntWalk.i64_in _ (by omega))
          · intro a' w' K hI hd hq hK
            have e22 : a'.eval (.tmp 22) = .pointer (some ⟨bl, ol + i * 33 + 1, none⟩) := (hd 4 22 (by kernel_rfl))
            clear hd hq
            subst hI
            refine op_value (wanted_free _ _ (by rfl)) (v := .agg gc) (w'' := wc.drew) ?_ (hK _ _ rfl (fun _ _ h => h) rfl)
            rw [EGC.out]
            simp only [execOp, e22, Instr.loadAt, Instr.sureAddr, Sem.run_bind, Sem.run_pure, Result.andThen_ok, run_loadVar_mid wc.drew bl (ol + i * 33 + 1) 86 (bv g) _ (HRM.out _ HB6.out.drew) Try.underlying86 rfl (by rw [bv_length, HGLN.out]; exact info72)]
          · intro a' w' K hI hd hq hK
            have e18 : a'.eval (.tmp 18) = .agg hc2 := (hd 0 18 (by kernel_rfl))
            have e23 : a'.eval (.tmp 23) = .agg gc := (hd 5 23 (by kernel_rfl))
            clear hd hq
            refine op_value (wanted_free _ _ (by rfl)) (v := .bool (!qq)) (w'' := w') ?_ (hK _ _ hI (fun _ _ h => h) rfl)
            simp only [execOp, e18, e23, Sem.run_bind, run_eqGuard_agg w' _ 86 _ _ _ _ (show Try.prog.eqGuardType Try.prog.depth 86 = false by kernel_rfl), run_neq_struct, HEQ.out w', Result.andThen_ok, Sem.run_pure]
        case fin6 =>
          rintro w' hI _ rfl _ rfl _ rfl _ rfl _ rfl _ rfl _ rfl
          simp only [Act.put, List.setIfInBounds_toArray, List.set_cons_zero, List.set_cons_succ, FinGoal]
          subst hI
          cases qq with
          | true =>
            go_wp2_with fail
            go_roundg (M.length - (i + 1))
            case measure => have := HK.out; have := HLT.out; omega
            case rel =>
              refine ⟨i + 1, HLT.out, rfl, by go_num, by rw [HT.out]; exact HA6.out.drew, fun j hj => ?_, HB6.out.drew⟩
              by_cases hji : j = i
              · rw [hji]; exact EQ.out.symm
              · exact HGD.out j (by omega)
          | false =>
            go_wp2_with fail
            go_ret
            exact ⟨by rw [EK.out, checkOf_bad M i HLT.out HGD.out EQ.out.symm]; rfl, HB6.out.drew⟩
    · obtain rfl : i = M.length := by omega
      go_wp2_with fail
      go_ret
      exact ⟨by rw [EK.out, checkOf_good M HGD.out]; rfl, HB.out⟩

end Go.Proofs.Ytjakhemolecbnaa
end

/-
  The walks of the reference's writers: Four, Text, and Encode of a chain.
-/
section
set_option linter.unusedVariables false
set_option linter.unusedSimpArgs false
namespace Go.Proofs.Ytjakhemolecbnaa
open Go.RowKit

theorem be4_cells (m : Nat) (hm : m ≤ 2147483647) : bv (be4n m) = [.int .u8 ((m : Int) / 16777216), .int .u8 ((m : Int) / 65536 % 256), .int .u8 ((m : Int) / 256 % 256), .int .u8 ((m : Int) % 256)] := by
  have e : ∀ x : Nat, un8 (UInt8.ofNat x) = ((x % 256 : Nat) : Int) := fun x => by unfold un8; rw [UInt8.toNat_ofNat']
  show [Value.int .u8 (un8 (UInt8.ofNat (m / 16777216))), Value.int .u8 (un8 (UInt8.ofNat (m / 65536))), Value.int .u8 (un8 (UInt8.ofNat (m / 256))), Value.int .u8 (un8 (UInt8.ofNat m))] = _
  rw [e, e, e, e]
  have e1 : ((m / 16777216 % 256 : Nat) : Int) = (m : Int) / 16777216 := by omega
  have e2 : ((m / 65536 % 256 : Nat) : Int) = (m : Int) / 65536 % 256 := by omega
  have e3 : ((m / 256 % 256 : Nat) : Int) = (m : Int) / 256 % 256 := by omega
  have e4 : ((m % 256 : Nat) : Int) = (m : Int) % 256 := by omega
  rw [e1, e2, e3, e4]

set_option maxRecDepth 100000 in
set_option maxHeartbeats 4000000 in
theorem refFour_any (A : Option Addr) (n c : Nat) (b : List UInt8) (m : Nat) (w : World) (hl : b.length = n) (hb : b.length ≤ 100000000) (hr : RB w A b) (hm : m ≤ 2147483647) :
    Calls Try.prog 50 #[.slice A n c, .int .i64 (m : Int)] w fun e w' => ∃ v, e = .returned v ∧ w'.ownsRow w.heap.size 5 1 v (b.length + 4) (bv (b ++ be4n m)) ∧ Below w.heap.size w w' := by
  subst hl
  have HR := Lib.hid hr
  clear hr
  have hb0 : Below w.heap.size w (w.alloc (.cells #[] 5)) := (Below.refl _ _).alloc (Nat.le_refl _) _
  have E0 := Lib.hid (show (w.alloc (.cells #[] 5)).ownsRow w.heap.size 5 1 (.slice (some ⟨w.heap.size, 0, none⟩) 0 0) 0 [] from
    ⟨rfl, .inr ⟨_, 0, #[], rfl, Nat.le_refl _, heap_alloc_new w _, Nat.le_refl _, by simp [maxLen], rfl, rfl⟩⟩)
  have HB0 := Lib.hid hb0
  clear hb0
  go_enter Try.func50, Try.ntmps50
  go_wp2_with (at_builtin; refine append_any rfl (.tmp 5) (.tmp 6) 25 rfl w.heap.size 5 (.int .u8 0) 1 1 Try.underlying25 info8 rfl (by omega) (by omega) (.slice (some ⟨w.heap.size, 0, none⟩) 0 0) 0 [] rfl E0.out A b.length c (bv b) rfl (by rw [bv_length]; omega) (HR.out.below HB0.out).cells (bv_one _) (by omega) HB0.out.size ?_)
  intro v4 w4 ho4 hg4 hat4
  obtain ⟨A4, c4, rfl, _⟩ := own_slice ho4
  have ho4' : w4.ownsRow w.heap.size 5 1 (.slice A4 b.length c4) b.length (bv b) := ho4
  have HB4 := Lib.hid (below_upd (F := fun k => k = w.heap.size) HB0.out HB0.out.size ((Upd.refl (fun k => k = w.heap.size) (w.alloc (.cells #[] 5))).grown hg4 (fun k hk _ => (Option.some.inj (show some w.heap.size = some k from hk)).symm)) (fun k hk => by rw [hk]; exact Nat.le_refl _))
  have HC := Lib.hid (be4_cells m hm)
  have HO4 := Lib.hid ho4'
  clear ho4 ho4' hg4 hat4
  go_wp2_with (at_builtin; refine append_any rfl (.tmp 7) (.tmp 19) 25 rfl w.heap.size 5 (.int .u8 0) 1 1 Try.underlying25 info8 rfl (by omega) (by omega) (.slice A4 b.length c4) b.length (bv b) rfl (HO4.out.alloc _) (some ⟨w4.heap.size, 0, none⟩) 4 4 [.int .u8 ((m : Int) / 16777216), .int .u8 ((m : Int) / 65536 % 256), .int .u8 ((m : Int) / 256 % 256), .int .u8 ((m : Int) % 256)] rfl rfl (RC_newL w4 _ _) (by rw [← HC.out]; exact bv_one _) (by omega) (by have := HB4.out.size; simp; omega) ?_)
  intro v5 w5 ho5 hg5 hat5
  have HB5 := Lib.hid (below_upd (F := fun k => (Value.slice A4 b.length c4).ownBlock = some k) HB4.out HB4.out.size (((Upd.refl (fun k => (Value.slice A4 b.length c4).ownBlock = some k) w4).alloc _).grown hg5 (fun k hk _ => hk)) (fun k hk => (HO4.out.lt k hk).1))
  have HO5 := Lib.hid (show w5.ownsRow w.heap.size 5 1 v5 (b.length + 4) (bv (b ++ be4n m)) by rw [bv_append, HC.out]; simpa using ho5)
  clear ho5 hg5 hat5
  go_wp2_with fail
  go_ret
  exact ⟨_, rfl, HO5.out, HB5.out⟩

set_option maxRecDepth 100000 in
set_option maxHeartbeats 4000000 in
theorem refText_any (A : Option Addr) (n c : Nat) (b : List UInt8) (s : List UInt8) (w : World) (hl : b.length = n) (hb : b.length ≤ 90000000) (hr : RB w A b) (hs : s.length ≤ 1500000) :
    Calls Try.prog 45 #[.slice A n c, .string (strB s)] w fun e w' => ∃ v, e = .returned v ∧ w'.ownsRow w.heap.size 5 1 v (b.length + 4 + s.length) (bv (b ++ be4n s.length ++ s)) ∧ Below w.heap.size w w' := by
  subst hl
  have HR := Lib.hid hr
  have HSZ := Lib.hid (strB_size s)
  have HSL := Lib.hid (show Lib.strCells (strB s) = bv s by rw [strCells_bv, strB_toList])
  obtain ⟨i8, hi8, hz8⟩ := Option.map_eq_some_iff.1 info8
  simp only [Prod.mk.injEq] at hz8
  have HI8 := Lib.hid hi8
  have HZ8 := Lib.hid hz8
  obtain ⟨z, hz⟩ : ∃ z, z = strB s := ⟨_, rfl⟩
  rw [← hz] at HSZ HSL ⊢
  clear hr hi8 hz8 hz
  go_enter Try.func45, Try.ntmps45
  go_wp2_with fail
  rw [HSZ.out]
  refine (refFour_any A b.length c b s.length w rfl (by omega) HR.out (by omega)).mono ?_
  rintro e w1 ⟨v1, rfl, ho, hb1⟩
  obtain ⟨A1, c1, rfl, _⟩ := own_slice ho
  have HO := Lib.hid ho
  have HB1 := Lib.hid hb1
  clear ho hb1
  go_wp2_with (at_builtin; refine wpList_append_str rfl (.tmp 8) (.tmp 9) 25 9 rfl w.heap.size 5 i8 Try.underlying25 Try.underlying9 HI8.out HZ8.out.1 HZ8.out.2.1 HZ8.out.2.2 (.slice A1 (b.length + 4) c1) (b.length + 4) (bv (b ++ be4n s.length)) rfl HO.out (by omega) z rfl (by rw [HSZ.out]; omega) HB1.out.size ?_)
  intro v5 w5 ho5 hg5 hat5
  have HB5 := Lib.hid (below_upd (F := fun k => (Value.slice A1 (b.length + 4) c1).ownBlock = some k) HB1.out HB1.out.size ((Upd.refl (fun k => (Value.slice A1 (b.length + 4) c1).ownBlock = some k) w1).grown hg5 (fun k hk _ => hk)) (fun k hk => (HO.out.lt k hk).1))
  have HO5 := Lib.hid (show w5.ownsRow w.heap.size 5 1 v5 (b.length + 4 + s.length) (bv (b ++ be4n s.length ++ s)) by rw [bv_append, ← HSL.out, ← HSZ.out]; rw [HSZ.out] at ho5 ⊢; exact ho5)
  clear ho5 hg5 hat5
  go_wp2_with fail
  go_ret
  exact ⟨_, rfl, HO5.out, HB5.out⟩
end Go.Proofs.Ytjakhemolecbnaa
end

/-
  The walk of the reference's Encode of a chain.
-/
section
set_option linter.unusedVariables false
set_option linter.unusedSimpArgs false
namespace Go.Proofs.Ytjakhemolecbnaa
open Go.RowKit

set_option maxRecDepth 100000 in
set_option maxHeartbeats 8000000 in
theorem refEncode_any (A : Option Addr) (n c : Nat) (M : List (List UInt8 × List UInt8)) (w : World) (hl : M.length = n) (hn : n ≤ 4000) (hh : ∀ x ∈ M, x.2.length = 32) (ht : ∀ x ∈ M, x.1.length ≤ 4000) (hr : RC w A (lv M)) :
    Calls Try.prog 25 #[.slice A n c] w fun e w' => ∃ v, e = .returned v ∧ w'.ownsRow w.heap.size 5 1 v (encOf M).length (bv (encOf M)) ∧ Below w.heap.size w w' := by
  subst hl
  have HR := Lib.hid hr
  have HH := Lib.hid hh
  have HT := Lib.hid ht
  have HN := Lib.hid hn
  have HEB := Lib.hid (show ∀ i, (be4n M.length ++ encL (M.take i)).length ≤ 20000000 from fun i => by
    have h1 := encL_bound (M.take i) (fun x hx => hh x (List.mem_of_mem_take hx)) (fun x hx => ht x (List.mem_of_mem_take hx))
    have h2 : (M.take i).length ≤ M.length := List.length_take_le' ..
    rw [List.length_append, be4n_length]
    omega)
  clear hr hh ht
  go_enter Try.func25, Try.ntmps25
  go_wp2_with fail
  refine (refFour_any none 0 0 [] M.length w rfl (by simp) (RB.nil _ _) (by omega)).mono ?_
  rintro e w1 ⟨v1, rfl, ho, hb1⟩
  obtain ⟨A1, c1, rfl, _⟩ := own_slice ho
  have HO := Lib.hid (show w1.ownsRow w.heap.size 5 1 (.slice A1 4 c1) 4 (bv (be4n M.length ++ encL (M.take 0))) by simpa [encL] using ho)
  have HB1 := Lib.hid hb1
  clear ho hb1
  go_wp2_with fail
  go_loopg [3, 4] M.length (fun k s3 s4 wr => ∃ (i nb : Nat) (A3 : Option Addr) (c3 : Nat), i ≤ M.length ∧ k = M.length - i ∧ s4 = .int .i64 (i : Int) ∧ s3 = .slice A3 nb c3 ∧ nb = (be4n M.length ++ encL (M.take i)).length ∧ wr.ownsRow w.heap.size 5 1 (.slice A3 nb c3) nb (bv (be4n M.length ++ encL (M.take i))) ∧ Below w.heap.size w wr)
  case atStart => exact ⟨0, 4, A1, c1, Nat.zero_le _, by omega, rfl, rfl, by simp [encL, be4n_length], HO.out, HB1.out⟩
  case round =>
    obtain ⟨i, nb, A3, c3, hi, hk, rfl, rfl, hnb, ho, hb⟩ := hrel
    have HK := Lib.hid hk
    have HO3 := Lib.hid ho
    have HB := Lib.hid hb
    have HNB := Lib.hid hnb
    clear hk ho hb hnb HO HB1
    by_cases hlt : i < M.length
    · obtain ⟨bl, ol, rfl, e1⟩ := HR.out.parts (by rw [lv_length _ HH.out]; omega)
      have hRG := lk_range HH.out e1 i hlt
      have hxs : (M[i]).1.length ≤ 4000 := HT.out _ (List.getElem_mem hlt)
      have hgl : (M[i]).2.length = 32 := HH.out _ (List.getElem_mem hlt)
      have hsn : be4n M.length ++ encL (M.take (i + 1)) = (be4n M.length ++ encL (M.take i)) ++ be4n (M[i]).1.length ++ (M[i]).1 ++ (M[i]).2 := by
        rw [List.take_succ_eq_append_getElem hlt, encL_snoc]
        simp
      have hbd := HEB.out i
      generalize M[i] = xg at *
      obtain ⟨x, g⟩ := xg
      simp only at hxs hgl hsn
      obtain ⟨b, eb⟩ : ∃ b, b = be4n M.length ++ encL (M.take i) := ⟨_, rfl⟩
      rw [← eb] at HO3 HNB hsn hbd
      have HSN := Lib.hid hsn
      have HBD := Lib.hid hbd
      have HGL := Lib.hid hgl
      have HXS := Lib.hid hxs
      have HRM := Lib.hid (show ∀ W, Below w.heap.size w W → RC W (some ⟨bl, ol + i * 33 + 1, none⟩) (bv g) from fun W h _ => ⟨_, rfl, fun j v hj => by
        have := cell_below h (hRG (j + 1) v (by simpa [lk] using hj))
        rw [add_off]
        rwa [show ol + i * 33 + (j + 1) = ol + i * 33 + 1 + j by omega] at this⟩)
      have k0 := cell_below HB.out (hRG 0 _ rfl)
      obtain ⟨sx, esx⟩ : ∃ sx, sx = strB x := ⟨_, rfl⟩
      have k1 : wr.cell? ⟨bl, ol + i * 33, none⟩ = some (.string sx) := by rw [esx]; exact k0
      have ESX := Lib.hid esx
      have hi0 : (0 : Int) ≤ (i : Int) := by omega
      have hi1 : (i : Int) < (M.length : Int) := by omega
      have HLT := Lib.hid hlt
      clear e1 hRG hxs hgl hsn hbd eb k0 esx hlt hi
      go_upto_region 5 with fail
      go_region_law (first
        | (refine step_append_any rfl (.tmp 20) (.tmp 25) 25 rfl w.heap.size 5 (.int .u8 0) 1 1 Try.underlying25 info8 rfl (by omega) (by omega) (.slice A5 (b.length + 4 + x.length) c5) (b.length + 4 + x.length) (bv (b ++ be4n x.length ++ x)) (by simp [Act.eval, Act.put]) HO5.out (some ⟨bl, ol + i * 33 + 1, none⟩) 32 32 (bv g) (by simp [Act.eval, Act.put]) (by rw [bv_length, HGL.out]) (HRM.out _ HB5.out) (bv_one _) (by have := HBD.out; have := HXS.out; omega) HB5.out.size ?_; intro v6 w6 ho6 hg6 hv6)
        | (refine op_call #[.slice A3 nb c3, .string sx] (by simp [Region.wanted]) rfl Try.func45 (by kernel_rfl) rfl (by simp [Act.eval, Act.put]) ?_; rw [ESX.out]; refine (refText_any A3 nb c3 b x wr.drew HNB.out.symm (by have := HBD.out; omega) ((own_RC HO3.out).bytes.below ((Below.refl _ _).drew)) (by have := HXS.out; omega)).mono ?_; rintro e w5 ⟨v5, rfl, ho5, hb5⟩; obtain ⟨A5, c5, rfl, _⟩ := own_slice ho5; have HO5 := Lib.hid (own_lower ho5 HB.out.size); have HB5 := Lib.hid (below_below HB.out.drew (show w.heap.size ≤ wr.drew.heap.size from HB.out.size) hb5); clear ho5 hb5; refine ⟨_, rfl, ?_⟩))
      all_goals
        obtain ⟨A6, c6, rfl, _⟩ := own_slice ho6
        have HB6 := Lib.hid (below_upd HB5.out HB5.out.size ((Upd.refl (fun k => (Value.slice A5 (b.length + 4 + x.length) c5).ownBlock = some k) w5).grown hg6 (fun k hk _ => hk)) (fun k hk => (HO5.out.lt k hk).1))
        have HO6 := Lib.hid (show w6.ownsRow w.heap.size 5 1 (.slice A6 (b.length + 4 + x.length + 32) c6) (b.length + 4 + x.length + 32) (bv (be4n M.length ++ encL (M.take (i + 1)))) by rw [HSN.out, bv_append]; exact ho6)
        have HLE := Lib.hid (show b.length + 4 + x.length + 32 = (be4n M.length ++ encL (M.take (i + 1))).length by rw [HSN.out, List.length_append, List.length_append, List.length_append, be4n_length, HGL.out])
        clear ho6 hg6 hv6 k1
        go_wp2_with fail
        go_roundg (M.length - (i + 1))
        case measure => have := HK.out; have := HLT.out; omega
        case rel => exact ⟨i + 1, _, A6, c6, HLT.out, rfl, by go_num, rfl, HLE.out, HO6.out, HB6.out⟩
    · obtain rfl : i = M.length := by omega
      rw [List.take_length] at HO3 HNB
      have HEN := Lib.hid (show nb = (encOf M).length from HNB.out)
      go_wp2_with fail
      go_ret
      exact ⟨_, rfl, by rw [← HEN.out]; exact HO3.out, HB.out⟩
end Go.Proofs.Ytjakhemolecbnaa
end
