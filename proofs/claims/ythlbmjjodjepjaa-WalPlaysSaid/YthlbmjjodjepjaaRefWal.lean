/-
  The walks of the reference's Four, Frame and Scan.
-/
import Derived.Test.YthlbmjjodjepjaaWal
import Derived.Test.YthlbmjjodjepjaaRefCrc
import Derived.Test.YthlbmjjodjepjaaArr
import Derived.Deep.CutBlock
set_option linter.unusedVariables false
set_option linter.unusedSimpArgs false
namespace Go.Proofs.Ythlbmjjodjepjaa
open Go.RowKit

theorem wrap8_nat (n : Nat) : IntKind.u8.wrap (n : Int) = un8 (UInt8.ofNat n) := by
  rw [IntKind.wrap_u8]
  unfold un8
  rw [show (UInt8.ofNat n).toNat = n % 256 from UInt8.toNat_ofNat']
  omega

set_option maxHeartbeats 2000000 in
theorem refFour_any (A : Option Addr) (m c : Nat) (l : List UInt8) (n : Nat) (w : World) (hl : l.length = m) (hm : m ≤ 100000000) (hr : RB w A l) (hn : n < 9223372036854775808) :
    Calls Try.prog 58 #[.slice A m c, .int .i64 (n : Int)] w fun e w' => ∃ v, e = .returned v ∧ w'.ownsRow w.heap.size 5 1 v (l.length + 4) (bv (l ++ be4n n)) ∧ Below w.heap.size w w' := by
  subst hl
  have HR := Lib.hid hr
  have h1 : IntKind.u8.wrap ((n : Int) / 16777216) = un8 (UInt8.ofNat (n / 16777216)) := by rw [← wrap8_nat]; rfl
  have h2 : IntKind.u8.wrap ((n : Int) / 65536) = un8 (UInt8.ofNat (n / 65536)) := by rw [← wrap8_nat]; rfl
  have h3 : IntKind.u8.wrap ((n : Int) / 256) = un8 (UInt8.ofNat (n / 256)) := by rw [← wrap8_nat]; rfl
  have h4 : IntKind.u8.wrap (n : Int) = un8 (UInt8.ofNat n) := wrap8_nat n
  have hn0 : (0 : Int) ≤ (n : Int) := by omega
  have hn1 : (n : Int) < 9223372036854775808 := by omega
  obtain ⟨x1, e1⟩ : ∃ x, x = UInt8.ofNat (n / 16777216) := ⟨_, rfl⟩
  obtain ⟨x2, e2⟩ : ∃ x, x = UInt8.ofNat (n / 65536) := ⟨_, rfl⟩
  obtain ⟨x3, e3⟩ : ∃ x, x = UInt8.ofNat (n / 256) := ⟨_, rfl⟩
  obtain ⟨x4, e4⟩ : ∃ x, x = UInt8.ofNat n := ⟨_, rfl⟩
  have HBE := Lib.hid (show be4n n = [x1, x2, x3, x4] by rw [e1, e2, e3, e4]; rfl)
  rw [← e1] at h1
  rw [← e2] at h2
  rw [← e3] at h3
  rw [← e4] at h4
  clear hr e1 e2 e3 e4 hn
  go_enter Try.func58, Try.ntmps58
  go_wp2_with (at_builtin; refine append_bytes rfl (.tmp 5) (.tmp 6) 37 rfl w.heap.size 5 Try.underlying37 info8 _ [] rfl (World.ownsRow_lit w #[] 0 (Nat.le_refl _) (by simp [maxLen]) rfl) _ _ _ l rfl rfl (HR.out.below ((Below.refl _ _).alloc (Nat.le_refl _) _)) ?c1 ?c2 ?_)
  case c1 => simp; omega
  case c2 => simp
  intro v1 w1 ho hg hat
  have ho' : w1.ownsRow w.heap.size 5 1 v1 l.length (bv l) := by simpa using ho
  have HO := Lib.hid ho'
  have HB := Lib.hid (((Below.refl w.heap.size w).alloc (Nat.le_refl _) _).grown hg (by simp) (fun k hk => by simp [Value.ownBlock] at hk; omega))
  clear ho ho' hg hat
  go_wp2_with (at_builtin; refine append_bytes rfl (.tmp 7) (.tmp 19) 37 rfl w.heap.size 5 Try.underlying37 info8 v1 l rfl (HO.out.alloc _) _ 4 _ [x1, x2, x3, x4] rfl rfl (RB_new w1 [x1, x2, x3, x4] 5) ?c3 ?c4 ?_)
  case c3 => omega
  case c4 => have := HB.out.size; simp; omega
  intro v2 w2 ho hg hat
  have HO2 := Lib.hid ho
  have HB2 := Lib.hid ((HB.out.alloc HB.out.size _).grown hg (by have := HB.out.size; simp; omega) (fun k hk => (World.ownsRow.lt HO.out k hk).1))
  clear ho hg hat
  go_wp2_with fail
  go_ret
  rw [HBE.out]
  exact ⟨v2, rfl, HO2.out, HB2.out⟩

set_option maxHeartbeats 4000000 in
theorem refFrame_any (first : Bool) (s : ByteArray) (w : World) (hs : s.size ≤ 4000000) :
    Calls Try.prog 24 #[.bool first, .string s] w fun e w' => ∃ v, e = .returned v ∧ w'.ownsRow w.heap.size 5 1 v (frameOf first s.data.toList).length (bv (frameOf first s.data.toList)) ∧ Below w.heap.size w w' := by
  obtain ⟨i8, hi8, hz8, hs8, hb8⟩ := info8i
  have hsz := data_length s
  obtain ⟨l, el⟩ : ∃ l, l = s.data.toList := ⟨_, rfl⟩
  have hst : Lib.strCells s = bv l := by rw [el]; rfl
  rw [← el] at hsz ⊢
  have HST := Lib.hid hst
  have HI8 := Lib.hid hi8
  have HZ8 := Lib.hid hz8
  have HS8 := Lib.hid hs8
  have HB8 := Lib.hid hb8
  have HSZ := Lib.hid hsz
  clear hst el hi8 hz8 hs8 hb8 hsz
  go_enter Try.func24, Try.ntmps24
  go_upto_if 7 with fail
  go_cut [5] (fun s5 wx => s5 = .slice (some ⟨w.heap.size, 0, none⟩) 1 1 ∧ wx.ownsRow w.heap.size 5 1 (.slice (some ⟨w.heap.size, 0, none⟩) 1 1) 1 (bv [kindOf first]) ∧ Below w.heap.size w wx)
  case first =>
    have ho := World.ownsRow_lit w (e := 5) (size := 1) #[.int .u8 0] 1 (Nat.le_refl _) (by simp [maxLen]) rfl
    have hb : Below w.heap.size w (w.alloc (.cells #[.int .u8 0] 5)) := (Below.refl _ _).alloc (Nat.le_refl _) _
    have ho0 : (w.alloc (.cells #[.int .u8 0] 5)).ownsRow w.heap.size 5 1 (.slice (some ⟨w.heap.size, 0, none⟩) 1 1) 1 (bv [0]) := ho
    cases first with
    | false =>
      go_wp2_with fail
      go_meet
      exact ⟨rfl, ho0, hb⟩
    | true =>
      have hcell := own_byte ho0 0 (by simp)
      have hfro := ho0.frozenAt 0
      go_wp2_with fail
      go_meet
      exact ⟨rfl, World.ownsRow_lit w #[.int .u8 1] 1 (Nat.le_refl _) (by simp [maxLen]) rfl, (Below.refl _ _).alloc (Nat.le_refl _) _⟩
  case rest =>
    obtain ⟨rfl, ho, hb⟩ := hcut
    have O1 := Lib.hid ho
    have B1 := Lib.hid hb
    clear ho hb
    go_wp2_with (at_builtin; refine Lib.wpList_append_own_string _ rfl (.tmp 10) (.tmp 11) 37 9 rfl w.heap.size 5 i8 Try.underlying37 Try.underlying9 HI8.out HZ8.out HS8.out HB8.out (.slice (some ⟨w.heap.size, 0, none⟩) 1 1) 1 (bv [kindOf first]) rfl O1.out s rfl (by simp [maxLen]; omega) (by omega) B1.out.size ?_)
    intro v2 w2 ho hg _
    have ho2 : w2.ownsRow w.heap.size 5 1 v2 (1 + l.length) (bv (kindOf first :: l)) := by
      rw [HST.out, ← HSZ.out] at ho
      exact ho
    obtain ⟨A2, c2, rfl, _⟩ := own_slice ho2
    have B2 := Lib.hid (B1.out.grown hg B1.out.size (fun k hk => (World.ownsRow.lt O1.out k hk).1))
    have O2 := Lib.hid ho2
    clear ho ho2 hg
    have hsl : (s.size : Int) = (l.length : Int) := by have := HSZ.out; omega
    have HLL := Lib.hid (show l.length ≤ 4000000 by have := HSZ.out; omega)
    clear hs
    go_wp2_with fail
    refine (refFour_any none 0 0 [] l.length _ rfl (by omega) (RB.nil _ _) (by have := HLL.out; omega)).mono ?_
    rintro e w3 ⟨v3, rfl, ho, hb⟩
    obtain ⟨A3, c3, rfl, _⟩ := own_slice ho
    have O3 := Lib.hid (show w3.ownsRow w2.heap.size 5 1 (.slice A3 4 c3) 4 (bv (be4n l.length)) from ho)
    have B3 := Lib.hid hb
    have O2' := Lib.hid (own_below O2.out hb)
    clear ho hb
    have hwr : IntKind.i64.wrap (un32 (crcOf (kindOf first :: l))) = un32 (crcOf (kindOf first :: l)) := by
      have := un32_range (crcOf (kindOf first :: l)); rw [IntKind.wrap_i64]; omega
    go_wp2_with fail
    refine (refCrc_any A2 (1 + l.length) c2 (kindOf first :: l) w3 (by simp; omega) (by have := HLL.out; omega) (own_RC O2'.out).bytes).mono ?_
    rintro e w4 ⟨rfl, rfl⟩
    go_wp2_with fail
    refine (refFour_any A3 4 c3 (be4n l.length) (crcOf (kindOf first :: l)).toNat _ rfl (by omega) (own_RC O3.out).bytes (by have := (crcOf (kindOf first :: l)).toNat_lt; omega)).mono ?_
    rintro e w5 ⟨v5, rfl, ho, hb⟩
    have O5 := Lib.hid (own_lower (show w5.ownsRow w3.heap.size 5 1 v5 8 (bv (be4n l.length ++ be4n (crcOf (kindOf first :: l)).toNat)) from ho) (show w.heap.size ≤ w3.heap.size from Nat.le_trans B2.out.size B3.out.size))
    have B5 := Lib.hid (below_below (below_below B2.out B2.out.size B3.out) (Nat.le_trans B2.out.size B3.out.size) hb)
    have O2'' := Lib.hid (own_below O2'.out hb)
    clear ho hb
    have h8 : (be4n l.length ++ be4n (crcOf (kindOf first :: l)).toNat).length = 8 := rfl
    go_wp2_with (at_builtin; refine append_bytes rfl (.tmp 19) (.tmp 20) 37 rfl w.heap.size 5 Try.underlying37 info8 v5 (be4n l.length ++ be4n (crcOf (kindOf first :: l)).toNat) rfl O5.out _ _ _ (kindOf first :: l) rfl (by simp; omega) (own_RC O2''.out).bytes ?c1 ?c2 ?_)
    case c1 => rw [h8]; have := HLL.out; omega
    case c2 => exact B5.out.size
    intro v7 w7 ho hg hat
    have O7 := Lib.hid ho
    have B7 := Lib.hid (B5.out.grown hg B5.out.size (fun k hk => (World.ownsRow.lt O5.out k hk).1))
    clear ho hg hat
    go_wp2_with fail
    go_ret
    refine ⟨v7, rfl, ?_, B7.out⟩
    have h7 := O7.out
    rw [frameOf_length]
    exact (show 8 + (1 + l.length) = 9 + l.length by omega) ▸ h7

theorem bt_getw (l : List UInt8) (i : Nat) (h : i < l.length) : bt l i = l[i] := by simp [bt, List.getD_eq_getElem?_getD, List.getElem?_eq_getElem h]
theorem shl24w (x : UInt32) : un32 x * 16777216 % 4294967296 = un32 (shlW x 24) := (un32_shl x 24).symm
theorem shl16w (x : UInt32) : un32 x * 65536 % 4294967296 = un32 (shlW x 16) := (un32_shl x 16).symm
theorem shl8w (x : UInt32) : un32 x * 256 % 4294967296 = un32 (shlW x 8) := (un32_shl x 8).symm
theorem or_low (a b k : Nat) (hb : b < 2 ^ k) : a * 2 ^ k ||| b = a * 2 ^ k + b := by
  have := Nat.two_pow_add_eq_or_of_lt (i := k) (b := b) hb a
  rw [Nat.mul_comm a]
  exact this.symm
theorem ori64 (a b k : Nat) (hb : b < 2 ^ k) (h : a * 2 ^ k + b < 9223372036854775808) : bits .or .i64 ((a * 2 ^ k : Nat) : Int) ((b : Nat) : Int) = ((a * 2 ^ k + b : Nat) : Int) := by
  show IntKind.i64.wrap ((BitVec.ofInt 64 (((a * 2 ^ k : Nat) : Int)) ||| BitVec.ofInt 64 ((b : Nat) : Int)).toNat : Int) = _
  rw [BitVec.ofInt_natCast, BitVec.ofInt_natCast, BitVec.toNat_or, BitVec.toNat_ofNat, BitVec.toNat_ofNat, Nat.mod_eq_of_lt (by omega), Nat.mod_eq_of_lt (by omega), or_low a b k hb, IntKind.wrap_i64]
  omega
theorem un32_be32 (d : List UInt8) (i : Nat) (h : i + 4 ≤ d.length) : un32 (be32 d i) = ((four (d.drop i) : Nat) : Int) := by
  have hs : ∀ (y : UInt8) (k : Nat), k ≤ 24 → (shlW y.toUInt32 k).toNat = y.toNat * 2 ^ k := by
    intro y k hk
    unfold shlW
    rw [UInt32.toNat_ofNat']
    have hy := y.toNat_lt
    have h2 : 2 ^ k ≤ 2 ^ 24 := Nat.pow_le_pow_right (by omega) hk
    have h3 : y.toNat * 2 ^ k ≤ 255 * 2 ^ 24 := Nat.mul_le_mul (by omega) h2
    have e : y.toUInt32.toNat = y.toNat := by simp
    rw [e]
    exact Nat.mod_eq_of_lt (by omega)
  have hf : four (d.drop i) = (((bt d i).toNat * 256 + (bt d (i + 1)).toNat) * 256 + (bt d (i + 2)).toNat) * 256 + (bt d (i + 3)).toNat := by
    have e : d.drop i = bt d i :: bt d (i + 1) :: bt d (i + 2) :: bt d (i + 3) :: d.drop (i + 4) := by
      have g : ∀ j, j < d.length → d.drop j = bt d j :: d.drop (j + 1) := fun j hj => by
        rw [List.drop_eq_getElem_cons hj, bt, List.getD_eq_getElem?_getD, List.getElem?_eq_getElem hj]
        rfl
      rw [g i (by omega), g (i + 1) (by omega), g (i + 2) (by omega), g (i + 3) (by omega)]
    rw [e]
    rfl
  rw [hf]
  unfold un32 be32
  rw [UInt32.toNat_or, UInt32.toNat_or, UInt32.toNat_or, hs _ 24 (by omega), hs _ 16 (by omega), hs _ 8 (by omega)]
  have e3 : (bt d (i + 3)).toUInt32.toNat = (bt d (i + 3)).toNat := by simp
  rw [e3]
  have h0 := (bt d i).toNat_lt
  have h1 := (bt d (i + 1)).toNat_lt
  have h2 := (bt d (i + 2)).toNat_lt
  have h3 := (bt d (i + 3)).toNat_lt
  rw [or_low _ _ 24 (by omega)]
  have a1 : (bt d i).toNat * 2 ^ 24 + (bt d (i + 1)).toNat * 2 ^ 16 = ((bt d i).toNat * 256 + (bt d (i + 1)).toNat) * 2 ^ 16 := by rw [show (2 : Nat) ^ 24 = 256 * 2 ^ 16 by decide, ← Nat.mul_assoc, ← Nat.add_mul]
  rw [a1, or_low _ _ 16 (by omega)]
  have a2 : ((bt d i).toNat * 256 + (bt d (i + 1)).toNat) * 2 ^ 16 + (bt d (i + 2)).toNat * 2 ^ 8 = (((bt d i).toNat * 256 + (bt d (i + 1)).toNat) * 256 + (bt d (i + 2)).toNat) * 2 ^ 8 := by rw [show (2 : Nat) ^ 16 = 256 * 2 ^ 8 by decide, ← Nat.mul_assoc, ← Nat.add_mul]
  rw [a2, or_low _ _ 8 (by omega)]

/-- The number of four bytes as the machine puts it together. -/
theorem four_or (d : List UInt8) (h : 4 ≤ d.length) :
    bits .or .i64 (bits .or .i64 (bits .or .i64 (un8 (bt d 0) * 16777216) (un8 (bt d 1) * 65536)) (un8 (bt d 2) * 256)) (un8 (bt d 3)) = ((four d : Nat) : Int) := by
  have h0 := (bt d 0).toNat_lt
  have h1 := (bt d 1).toNat_lt
  have h2 := (bt d 2).toNat_lt
  have h3 := (bt d 3).toNat_lt
  have hf : four d = (((bt d 0).toNat * 256 + (bt d 1).toNat) * 256 + (bt d 2).toNat) * 256 + (bt d 3).toNat := by
    rcases d with _ | ⟨a, _ | ⟨b, _ | ⟨c, _ | ⟨e, d⟩⟩⟩⟩ <;> simp at h
    rfl
  have p24 : ((2 ^ 24 : Nat) : Int) = 16777216 := by decide
  have p16 : ((2 ^ 16 : Nat) : Int) = 65536 := by decide
  have e1 : bits .or .i64 (un8 (bt d 0) * 16777216) (un8 (bt d 1) * 65536) = ((((bt d 0).toNat * 256 + (bt d 1).toNat) * 2 ^ 16 : Nat) : Int) := by
    have h := ori64 (bt d 0).toNat ((bt d 1).toNat * 65536) 24 (by omega) (by omega)
    rw [show (bt d 0).toNat * 2 ^ 24 + (bt d 1).toNat * 65536 = ((bt d 0).toNat * 256 + (bt d 1).toNat) * 2 ^ 16 by
      rw [show (2 : Nat) ^ 24 = 256 * 65536 by decide, show (2 : Nat) ^ 16 = 65536 by decide, ← Nat.mul_assoc, ← Nat.add_mul], Int.natCast_mul, Int.natCast_mul, p24] at h
    exact h
  have e2 : bits .or .i64 (((((bt d 0).toNat * 256 + (bt d 1).toNat) * 2 ^ 16 : Nat) : Int)) (un8 (bt d 2) * 256) = ((((((bt d 0).toNat * 256 + (bt d 1).toNat) * 256 + (bt d 2).toNat) * 2 ^ 8 : Nat)) : Int) := by
    have h := ori64 ((bt d 0).toNat * 256 + (bt d 1).toNat) ((bt d 2).toNat * 256) 16 (by omega) (by omega)
    rw [show ((bt d 0).toNat * 256 + (bt d 1).toNat) * 2 ^ 16 + (bt d 2).toNat * 256 = (((bt d 0).toNat * 256 + (bt d 1).toNat) * 256 + (bt d 2).toNat) * 2 ^ 8 by
      rw [show (2 : Nat) ^ 16 = 256 * 256 by decide, show (2 : Nat) ^ 8 = 256 by decide, ← Nat.mul_assoc, ← Nat.add_mul], Int.natCast_mul ((bt d 2).toNat)] at h
    exact h
  rw [e1, e2, hf]
  exact ori64 _ _ 8 (by omega) (by omega)

section
attribute [local go_sem] un8_mod32 or32 shl24w shl16w shl8w
set_option maxRecDepth 100000 in
set_option maxHeartbeats 8000000 in
theorem refScan_any (A : Option Addr) (n c : Nat) (l : List UInt8) (w : World) (hl : l.length = n) (hn : n ≤ 10000000) (hc : n ≤ c) (hr : RB w A l) :
    Calls Try.prog 27 #[.slice A n c] w fun e w' => ∃ v, e = .returned (.tuple #[v, .int .i64 ((scanOf l).2 : Nat)]) ∧ w'.ownsRow w.heap.size 9 1 v (scanOf l).1.length (sv (scanOf l).1) ∧ Below w.heap.size w w' := by
  subst hl
  have HR := Lib.hid hr
  clear hr
  obtain ⟨R, eR⟩ : ∃ R, R = scanOf l := ⟨_, rfl⟩
  rw [← eR]
  have ER := Lib.hid eR
  clear eR
  go_enter Try.func27, Try.ntmps27
  go_upto_block 0 with fail
  go_cut [4, 5] (fun s4 s5 wx => s5 = .int .i64 (R.2 : Int) ∧ wx.ownsRow w.heap.size 9 1 s4 R.1.length (sv R.1) ∧ Below w.heap.size w wx)
  case first =>
    go_wp2_with fail
    go_loopg [4, 5] (l.length + 1) (fun k s4 s5 wr => ∃ (at_ : Nat) (out : List (List UInt8)), k = l.length + 1 - at_ ∧ s5 = .int .i64 (at_ : Int) ∧ R = scanGo (l.length - at_ + 1) (l.drop at_) out at_ ∧ at_ ≤ l.length ∧ out.length ≤ at_ ∧ wr.ownsRow w.heap.size 9 1 s4 out.length (sv out) ∧ Below w.heap.size w wr)
    case atStart => exact ⟨0, [], by omega, rfl, ER.out, Nat.zero_le _, by simp, World.ownsRow_nil _ _ _ _, Below.refl _ _⟩
    case round =>
      obtain ⟨at_, out, hk, rfl, hR, hat, hol, ho, hb⟩ := hrel
      have HK := Lib.hid hk
      have HRR := Lib.hid hR
      have HO := Lib.hid ho
      have HB := Lib.hid hb
      have HOL := Lib.hid hol
      clear hk hR ho hb hol ER
      obtain ⟨d, ed⟩ : ∃ d, d = l.drop at_ := ⟨_, rfl⟩
      rw [← ed] at HRR
      have hdl : d.length = l.length - at_ := by rw [ed]; simp
      have HDL := Lib.hid hdl
      have HED := Lib.hid ed
      by_cases h9 : d.length < 9
      · have HR1 := Lib.hid (HRR.out.trans (scanGo_none (oneOf_short h9)))
        have h9' : ¬ ((9 : Int) ≤ (l.length : Int) - (at_ : Int)) := by omega
        clear h9 hdl ed
        go_wp2_with fail
        go_meet
        rw [HR1.out]
        exact ⟨rfl, HO.out, HB.out⟩
      · have h9' : (9 : Int) ≤ (l.length : Int) - (at_ : Int) := by omega
        obtain ⟨b, o, rfl, hcell⟩ := HR.out.parts (by omega)
        have hcd : ∀ j, j < d.length → wr.cell? ⟨b, o + (at_ + j), none⟩ = some (.int .u8 (un8 (bt d j))) := by
          intro j hj
          have h1 := cell_below HB.out (hcell (at_ + j) (by omega))
          have e : bt d j = l[at_ + j]'(by omega) := by
            rw [bt_getw d j hj]
            subst ed
            simp
          rw [e]
          exact h1
        have c0 : wr.cell? ⟨b, o + at_, none⟩ = some (.int .u8 (un8 (bt d 0))) := hcd 0 (by omega)
        have c1 := hcd 1 (by omega)
        have c2 := hcd 2 (by omega)
        have c3 := hcd 3 (by omega)
        have c4 := hcd 4 (by omega)
        have c5 := hcd 5 (by omega)
        have c6 := hcd 6 (by omega)
        have c7 := hcd 7 (by omega)
        have hfo := four_or d (by omega)
        have hbe := un32_be32 d 4 (by omega)
        have r0 := un8_range (bt d 0)
        have r1 := un8_range (bt d 1)
        have r2 := un8_range (bt d 2)
        have r3 := un8_range (bt d 3)
        clear hcd hcell
        obtain ⟨y, ey⟩ : ∃ y, y = four d := ⟨_, rfl⟩
        rw [← ey] at hfo
        have EY := Lib.hid ey
        have HBE := Lib.hid hbe
        unfold be32 at hbe
        have hl1 : (at_ : Int) + 9 ≤ (l.length : Int) := by omega
        have hl2 : (l.length : Int) ≤ 10000000 := by omega
        have ha0 : (0 : Int) ≤ (at_ : Int) := by omega
        have HLE := Lib.hid hat
        have H9 := Lib.hid h9
        clear hbe ey hdl ed hat h9 h9'
        have h9' : (9 : Int) ≤ (l.length : Int) - (at_ : Int) := by omega
        go_upto_region 4 with fail
        go_cut [6] (fun s6 wx => s6 = .int .i64 (y : Int) ∧ wx = wr.drew)
        case first =>
          go_region
          go_wp2_with fail
          go_meet
          exact ⟨rfl, rfl⟩
        case rest =>
        obtain ⟨rfl, rfl⟩ := hcut
        clear hfo c0 c1 c2 c3 r0 r1 r2 r3
        by_cases hbig : 4000 < y ∨ d.length - 9 < y
        · have hnone : oneOf d = none := by
            unfold oneOf
            rw [if_neg H9.out, if_pos (by rw [← EY.out]; exact hbig)]
          have HR1 := Lib.hid (HRR.out.trans (scanGo_none hnone))
          by_cases h4 : (4000 : Int) < (y : Int)
          · clear hbig hnone
            go_wp2_with fail
            go_meet
            rw [HR1.out]
            exact ⟨rfl, HO.out, HB.out.drew⟩
          · have h5 : (l.length : Int) - (at_ : Int) < (9 : Int) + (y : Int) := by have := HDL.out; omega
            clear hbig hnone
            go_wp2_with fail
            go_meet
            rw [HR1.out]
            exact ⟨rfl, HO.out, HB.out.drew⟩
        · have h4 : ¬ ((4000 : Int) < (y : Int)) := by omega
          have h5 : ¬ ((l.length : Int) - (at_ : Int) < (9 : Int) + (y : Int)) := by have := HDL.out; omega
          have h6 : at_ + (9 + y) ≤ l.length := by have := HDL.out; omega
          have hne : ¬ (c = at_ + 8) := by omega
          have hcc : (at_ : Int) + 9 + (y : Int) ≤ (c : Int) := by omega
          have hB : bodyOf d = (d.drop 8).take (1 + y) := by unfold bodyOf; rw [← EY.out]
          have hBl : (bodyOf d).length = 1 + y := by rw [hB]; have := HDL.out; simp; omega
          have hRB : RB w (some ⟨b, o + (at_ + 8), none⟩) (bodyOf d) := by
            rw [hB, HED.out]
            have h1 := RB_take (RB_drop (RB_drop HR.out at_) 8) (1 + y)
            rwa [Nat.add_assoc] at h1
          have hone : oneOf d = if 1 < ((bodyOf d).headD 0).toNat ∨ (crcOf (bodyOf d)).toNat ≠ four (d.drop 4) then none else some (decide ((bodyOf d).headD 0 = 1), (bodyOf d).tail) := by
            unfold oneOf
            rw [if_neg H9.out, if_neg (by rw [← EY.out]; omega)]
          generalize bodyOf d = body at *
          obtain ⟨x0, rest, rfl⟩ : ∃ x0 rest, body = x0 :: rest := by
            rcases body with _ | ⟨x0, rest⟩
            · simp at hBl; omega
            · exact ⟨x0, rest, rfl⟩
          simp only [List.headD_cons, List.tail_cons] at hone
          have hrl : rest.length = y := by simp at hBl; omega
          obtain ⟨E, hE⟩ : ∃ E, shlW (bt d 4).toUInt32 24 ||| shlW (bt d 5).toUInt32 16 ||| shlW (bt d 6).toUInt32 8 ||| (bt d 7).toUInt32 = E := ⟨_, rfl⟩
          have HEE := Lib.hid (show un32 E = ((four (d.drop 4) : Nat) : Int) by rw [← HBE.out, ← hE]; rfl)
          have HONE := Lib.hid hone
          have HRB := Lib.hid (hRB.below HB.out)
          have HRL := Lib.hid hrl
          have k1 : wr.cell? ⟨b, o + (at_ + 8), none⟩ = some (.int .u8 (un8 x0)) := by
            obtain ⟨b', o', e, h⟩ := (hRB.below HB.out).parts (by simp)
            cases e
            exact h 0 (by simp)
          have hx1 := un8_range x0
          have HH6 := Lib.hid h6
          clear hbig hB hBl hRB hone hrl h6
          have hO2 : wr.drew.drew.ownsRow w.heap.size 9 1 u4 out.length (sv out) := HO.out
          have hB2 : Below w.heap.size w wr.drew.drew := HB.out.drew.drew
          have hk2 : wr.drew.drew.cell? ⟨b, o + (at_ + 8), none⟩ = some (.int .u8 (un8 x0)) := k1
          have hR2 : RB wr.drew.drew (some ⟨b, o + (at_ + 8), none⟩) (x0 :: rest) := HRB.out
          have O2 := Lib.hid hO2
          have B2 := Lib.hid hB2
          have R2 := Lib.hid hR2
          have K2 := Lib.hid hk2
          clear k1 HO HB HRB hO2 hB2 hR2 hk2
          go_upto_region 7 with fail
          go_cut [8] (fun s8 wx => s8 = .int .u32 (un32 E) ∧ wx = wr.drew.drew)
          case first =>
            go_region
            go_wp2_with fail
            go_meet
            exact ⟨rfl, rfl⟩
          case rest =>
          obtain ⟨rfl, rfl⟩ := hcut
          clear hE c4 c5 c6 c7
          generalize wr.drew.drew = wq at *
          have hk2 := K2.out
          by_cases hk : 1 < x0.toNat
          · have hk1 : (1 : Int) < un8 x0 := by unfold un8; omega
            have HR1 := Lib.hid (HRR.out.trans (scanGo_none (HONE.out.trans (if_pos (.inl hk)))))
            clear hk
            go_wp2_with fail
            go_meet
            rw [HR1.out]
            exact ⟨rfl, O2.out, B2.out⟩
          · have hk1 : ¬ ((1 : Int) < un8 x0) := by unfold un8; omega
            have hd1 : decide ((1 : Int) < un8 x0) = false := by simp; omega
            by_cases hz : (crcOf (x0 :: rest)).toNat = four (d.drop 4)
            · have hd2 : (un32 (crcOf (x0 :: rest)) != un32 E) = false := by
                rw [HEE.out, ← hz]
                simp [un32]
              have hsome : oneOf d = some (decide (x0 = 1), rest) := HONE.out.trans (if_neg (fun h => h.elim hk (fun h => h hz)))
              have HRF := Lib.hid (show R = scanGo (l.length - (at_ + (9 + y)) + 1) (l.drop (at_ + (9 + y))) ((if decide (x0 = 1) = true then [] else out) ++ [rest]) (at_ + (9 + y)) by
                have h := HRR.out.trans (scanGo_some hsome)
                rw [HRL.out, HED.out, List.drop_drop] at h
                rw [h]
                have := HH6.out
                exact scanGo_fuel _ _ _ _ _ (by rw [List.length_drop]; omega) (by rw [List.length_drop]; omega))
              have HZ := Lib.hid hz
              clear hk hz hsome
              go_wp2_with fail
              refine (refCrc_any (some ⟨b, o + (at_ + 8), none⟩) _ _ (x0 :: rest) wq (by have := HRL.out; simp; omega) (by omega) R2.out).mono ?_
              rintro e w4 ⟨rfl, rfl⟩
              obtain ⟨out', eo⟩ : ∃ out', out' = (if decide (x0 = 1) = true then [] else out) := ⟨_, rfl⟩
              rw [← eo] at HRF
              have HOL2 := Lib.hid (show out'.length ≤ at_ by
                rw [eo]
                by_cases hx : x0 = 1
                · rw [if_pos (decide_eq_true hx)]; simp
                · rw [if_neg (fun h => hx (of_decide_eq_true h))]; exact HOL.out)
              go_upto_if 105 with fail
              go_cut [4] (fun s4 wx => wq = wx ∧ wq.ownsRow w.heap.size 9 1 s4 out'.length (sv out'))
              case first =>
                by_cases hx : x0 = 1
                · have hx2 : (un8 x0 == 1) = true := by rw [un8_one, decide_eq_true hx]
                  have HEO := Lib.hid (show out' = [] by rw [eo, if_pos (decide_eq_true hx)])
                  clear hx eo
                  go_wp2_with fail
                  go_meet
                  rw [HEO.out]
                  exact ⟨rfl, World.ownsRow_nil _ _ _ _⟩
                · have hx2 : (un8 x0 == 1) = false := by rw [un8_one, decide_eq_false hx]
                  have HEO := Lib.hid (show out' = out by rw [eo, if_neg (fun h => hx (of_decide_eq_true h))])
                  clear hx eo
                  go_wp2_with fail
                  go_meet
                  rw [HEO.out]
                  exact ⟨rfl, O2.out⟩
              case rest =>
              obtain ⟨rfl, ho4⟩ := hcut
              have O4 := Lib.hid ho4
              have hRr : RB wq (some ⟨b, o + (at_ + 8) + 1, none⟩) rest := by
                have h := RB_drop R2.out 1
                simpa using h
              have hrl2 : rest.length = at_ + 9 + y - (at_ + 8) - 1 := by have := HRL.out; omega
              have hst : ∀ A' c', (c - (at_ + 8) = 1 ∧ A' = some ⟨b, o + (at_ + 8), none⟩) ∨ A' = some ⟨b, o + (at_ + 8) + 1, none⟩ → (convert 37 9 (.slice A' (at_ + 9 + y - (at_ + 8) - 1) c')).run Try.prog wq = .ok (.string ⟨rest.toArray⟩) wq := by
                intro A' c' hA
                refine run_string_RB (P := Try.prog) _ 37 9 5 Try.underlying37 Try.underlying5 Try.underlying9 _ _ _ rest hrl2 ?_
                rcases hA with ⟨hcap, rfl⟩ | rfl
                · have hr0 : rest = [] := List.eq_nil_of_length_eq_zero (by omega)
                  rw [hr0]
                  exact RB.nil _ _
                · exact hRr
              have HST := Lib.hid hst
              clear hRr hrl2 hst ho4 eo
              by_cases hcap : c - (at_ + 8) = 1
              · have hs1 := HST.out _ 0 (.inl ⟨hcap, rfl⟩)
                go_wp2_with (at_builtin; refine append_any rfl (.tmp 106) (.tmp 110) 22 rfl w.heap.size 9 (.string ⟨#[]⟩) 1 16 Try.underlying22 infoS rfl (by omega) (by omega) u4 out'.length (sv out') rfl (O4.out.alloc _) _ 1 _ (sv [rest]) rfl rfl (RC_newL wq (sv [rest]) 9) (sv_one _) ?c1 ?c2 ?_)
                case c1 => have := HOL2.out; have := HLE.out; omega
                case c2 => have := B2.out.size; simp; omega
                intro v2 w2 ho2 hg2 hat2
                have hb2 : Below w.heap.size w w2 := (B2.out.alloc B2.out.size _).grown hg2 (by have := B2.out.size; simp; omega) (fun k hk => (World.ownsRow.lt O4.out k hk).1)
                have HO2 := Lib.hid (show w2.ownsRow w.heap.size 9 1 v2 (out' ++ [rest]).length (sv (out' ++ [rest])) by rw [List.length_append, sv_append]; exact ho2)
                have HB2 := Lib.hid hb2
                clear ho2 hg2 hat2 hb2 hs1
                go_wp2_with fail
                go_roundg (l.length + 1 - (at_ + (9 + y)))
                case measure => have := HK.out; have := HH6.out; omega
                case rel => exact ⟨at_ + (9 + y), out' ++ [rest], rfl, by have := HRL.out; go_num, HRF.out, HH6.out, by have := HOL2.out; simp; omega, HO2.out, HB2.out⟩
              · have hs1 := HST.out _ (c - (at_ + 8) - 1) (.inr rfl)
                go_wp2_with (at_builtin; refine append_any rfl (.tmp 106) (.tmp 110) 22 rfl w.heap.size 9 (.string ⟨#[]⟩) 1 16 Try.underlying22 infoS rfl (by omega) (by omega) u4 out'.length (sv out') rfl (O4.out.alloc _) _ 1 _ (sv [rest]) rfl rfl (RC_newL wq (sv [rest]) 9) (sv_one _) ?c1 ?c2 ?_)
                case c1 => have := HOL2.out; have := HLE.out; omega
                case c2 => have := B2.out.size; simp; omega
                intro v2 w2 ho2 hg2 hat2
                have hb2 : Below w.heap.size w w2 := (B2.out.alloc B2.out.size _).grown hg2 (by have := B2.out.size; simp; omega) (fun k hk => (World.ownsRow.lt O4.out k hk).1)
                have HO2 := Lib.hid (show w2.ownsRow w.heap.size 9 1 v2 (out' ++ [rest]).length (sv (out' ++ [rest])) by rw [List.length_append, sv_append]; exact ho2)
                have HB2 := Lib.hid hb2
                clear ho2 hg2 hat2 hb2 hs1
                go_wp2_with fail
                go_roundg (l.length + 1 - (at_ + (9 + y)))
                case measure => have := HK.out; have := HH6.out; omega
                case rel => exact ⟨at_ + (9 + y), out' ++ [rest], rfl, by have := HRL.out; go_num, HRF.out, HH6.out, by have := HOL2.out; simp; omega, HO2.out, HB2.out⟩
            · have hd2 : (un32 (crcOf (x0 :: rest)) != un32 E) = true := by
                rw [HEE.out, bne_iff_ne]
                unfold un32
                omega
              have HR1 := Lib.hid (HRR.out.trans (scanGo_none (HONE.out.trans (if_pos (.inr hz)))))
              clear hk hz
              go_wp2_with fail
              refine (refCrc_any (some ⟨b, o + (at_ + 8), none⟩) _ _ (x0 :: rest) wq (by have := HRL.out; simp; omega) (by omega) R2.out).mono ?_
              rintro e w4 ⟨rfl, rfl⟩
              go_wp2_with fail
              go_meet
              rw [HR1.out]
              exact ⟨rfl, O2.out, B2.out⟩
  case rest =>
    obtain ⟨rfl, ho, hb⟩ := hcut
    have HO := Lib.hid ho
    have HB := Lib.hid hb
    obtain ⟨A4, c4, rfl, _⟩ := own_slice ho
    clear ho hb
    go_wp2_with fail
    go_ret2
    exact ⟨_, rfl, HO.out, HB.out⟩
end

end Go.Proofs.Ythlbmjjodjepjaa
