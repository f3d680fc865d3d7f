/-
  The walks of wal.Frame, wal.one and wal.Scan.
-/
import Derived.Test.YthlbmjjodjepjaaWire
import Derived.Test.YthlbmjjodjepjaaCrc
import Derived.Lib.AppendStr
import Derived.OwnWalk
set_option linter.unusedVariables false
set_option linter.unusedSimpArgs false
namespace Go.Proofs.Ythlbmjjodjepjaa
open Go.RowKit

/-- Bytes of a string. -/
theorem data_eq (s : ByteArray) : (⟨s.data.toList.toArray⟩ : ByteArray) = s := by
  apply ByteArray.ext
  simp
theorem info8i : ∃ i, Try.prog.info? 5 = some i ∧ i.zero = some (.int .u8 0) ∧ i.size = 1 ∧ i.bytes = 1 := by
  have h := info8
  cases hi : Try.prog.info? 5 with
  | none => rw [hi] at h; cases h
  | some i =>
    rw [hi] at h
    simp at h
    exact ⟨i, rfl, h⟩

set_option maxHeartbeats 4000000 in
theorem frame_any (first : Bool) (s : ByteArray) (w : World) (hs : s.size ≤ 4000000) :
    Calls Try.prog 23 #[.bool first, .string s] w fun e w' => ∃ v, e = .returned v ∧ w'.ownsRow w.heap.size 5 1 v (frameOf first s.data.toList).length (bv (frameOf first s.data.toList)) ∧ Below w.heap.size w w' := by
  obtain ⟨i8, hi8, hz8, hs8, hb8⟩ := info8i
  have hsz := data_length s
  obtain ⟨l, el⟩ : ∃ l, l = s.data.toList := ⟨_, rfl⟩
  have hst : Lib.strCells s = bv l := by rw [el]; rfl
  rw [← el] at hsz ⊢
  have HST := Lib.hid hst
  have HI8 := Lib.hid hi8
  have HZ8 := Lib.hid hz8
  have HS8 := Lib.hid hs8
  have HB8 := Lib.hid hb8
  have HSZ := Lib.hid hsz
  clear hst el hi8 hz8 hs8 hb8 hsz
  go_enter Try.func23, Try.ntmps23
  go_wp2_with (at_builtin; refine Lib.wpList_append_own_string _ rfl (.tmp 7) (.tmp 8) 37 9 rfl w.heap.size 5 i8 Try.underlying37 Try.underlying9 HI8.out HZ8.out HS8.out HB8.out (.slice (some ⟨w.heap.size, 0, none⟩) 1 1) 1 (bv [0]) rfl (World.ownsRow_lit w #[.int .u8 0] 1 (Nat.le_refl _) (by simp [maxLen]) rfl) s rfl (by simp [maxLen]; omega) (by omega) (by simp) ?_)
  intro v1 w1 ho hg _
  have hb1 : Below w.heap.size w w1 := ((Below.refl _ _).alloc (Nat.le_refl _) _).grown hg (by simp) (fun k hk => by simp [Value.ownBlock] at hk; omega)
  have ho1 : w1.ownsRow w.heap.size 5 1 v1 (1 + l.length) (bv (0 :: l)) := by
    rw [HST.out, ← HSZ.out] at ho
    exact ho
  obtain ⟨g, c1, rfl, hgB, hc1⟩ := own_form ho1 (by omega)
  have HO := Lib.hid ho1
  have HB := Lib.hid hb1
  clear ho hg ho1 hb1
  go_upto_if 10 with fail
  go_cut [5] (fun s5 wx => s5 = .slice (some ⟨g, 0, none⟩) (1 + l.length) c1 ∧ wx.ownsRow w.heap.size 5 1 (.slice (some ⟨g, 0, none⟩) (1 + l.length) c1) (1 + l.length) (bv (kindOf first :: l)) ∧ Below w.heap.size w wx)
  case first =>
    cases first with
    | false =>
      go_wp2_with fail
      go_meet
      exact ⟨rfl, HO.out, HB.out⟩
    | true =>
      have hcell := own_byte HO.out 0 (by simp)
      have hfro := HO.out.frozenAt 0
      have hlen : (0 : Int) < 1 + (l.length : Int) := by omega
      go_wp2_with fail
      go_meet
      exact ⟨rfl, own_store HO.out 0 1, HB.out.setCell hgB _⟩
  case rest =>
    obtain ⟨rfl, ho, hb⟩ := hcut
    clear HO HB
    have HO := Lib.hid ho
    have HB := Lib.hid hb
    clear ho hb
    go_wp2_with fail
    refine (newWriter_any _).mono ?_
    rintro e w2 ⟨rfl, hw, hb⟩
    have hlc : l.length < 9223372036854775808 := by have := HSZ.out; omega
    have W2 := Lib.hid hw
    have B2 := Lib.hid hb
    clear hw hb
    have HLC := Lib.hid hlc
    clear hlc
    have hsl : (s.size : Int) = (l.length : Int) := by have := HSZ.out; omega
    go_wp2_with fail
    refine (writerFour_any _ _ _ _ [] W2.out l.length HLC.out (by simp)).mono ?_
    rintro e w3 ⟨v3, rfl, hw, hb⟩
    have hbl : ([] ++ be4n l.length : List UInt8).length = 4 := rfl
    have W3 := Lib.hid hw
    have B3 := Lib.hid (B2.out.trans hb)
    clear hw hb
    have hwr : IntKind.i64.wrap (un32 (crcOf (kindOf first :: l))) = un32 (crcOf (kindOf first :: l)) := by
      have := un32_range (crcOf (kindOf first :: l)); rw [IntKind.wrap_i64]; omega
    go_wp2_with fail
    refine (crc_any (some ⟨g, 0, none⟩) (1 + l.length) c1 (kindOf first :: l) w3 (by simp; omega) (by omega) ((own_RC HO.out).bytes.below B3.out)).mono ?_
    rintro e w4 ⟨rfl, rfl⟩
    go_wp2_with fail
    refine (writerFour_any _ _ _ _ _ W3.out (crcOf (kindOf first :: l)).toNat (by have := (crcOf (kindOf first :: l)).toNat_lt; omega) (by rw [hbl]; omega)).mono ?_
    rintro e w5 ⟨v5, rfl, hw, hb⟩
    have hbl5 : (([] ++ be4n l.length : List UInt8) ++ be4n (crcOf (kindOf first :: l)).toNat).length = 8 := rfl
    have W5 := Lib.hid hw
    have B5 := Lib.hid (B3.out.trans hb)
    clear hw hb
    go_wp2_with fail
    refine (writerDone_any _ _ _ _ _ W5.out (by rw [hbl5]; omega)).mono ?_
    rintro e w6 ⟨v6, rfl, ho, hb⟩
    have hsz5 := B5.out.size
    have B6 := Lib.hid (B5.out.trans (hb.mono hsz5))
    have O6 := Lib.hid (own_lower ho (show w.heap.size ≤ w5.heap.size by have := HB.out.size; omega))
    have hsz6 := B6.out.size
    clear ho hb
    go_wp2_with (at_builtin; refine append_bytes rfl _ _ 37 rfl w.heap.size 5 Try.underlying37 info8 _ _ rfl O6.out _ _ _ (kindOf first :: l) rfl (by simp; omega) ((own_RC HO.out).bytes.below B6.out) ?c1 ?c2 ?_)
    case c1 => rw [hbl5]; omega
    case c2 => have := HB.out.size; omega
    intro v7 w7 ho hg hat
    have O7 := Lib.hid ho
    have hb7 : Below w.heap.size w w7 := (below_below HB.out HB.out.size B6.out).grown hg (by have := HB.out.size; omega) (fun k hk => (World.ownsRow.lt O6.out k hk).1)
    have B7 := Lib.hid hb7
    clear ho hg hat hb7
    go_wp2_with fail
    go_ret
    refine ⟨v7, rfl, ?_, B7.out⟩
    have e1 : be4n l.length ++ (be4n (crcOf (kindOf first :: l)).toNat ++ kindOf first :: l) = frameOf first l := rfl
    have h7 := O7.out
    rw [e1, be4n_length, be4n_length] at h7
    rw [frameOf_length]
    exact (show 4 + 4 + (1 + l.length) = 9 + l.length by omega) ▸ h7

/-- What 'one' gives. -/
def oneRes (l : List UInt8) : Value :=
  match oneOf l with
  | none => .tuple #[.bool false, .string ⟨#[]⟩, .int .i64 0]
  | some (f, r) => .tuple #[.bool f, .string ⟨r.toArray⟩, .int .i64 ((9 : Int) + (r.length : Int))]

theorem oneRes_none {l : List UInt8} (h : oneOf l = none) : oneRes l = .tuple #[.bool false, .string ⟨#[]⟩, .int .i64 0] := by unfold oneRes; rw [h]
theorem un8_one (x : UInt8) : (un8 x == 1) = decide (x = 1) := by
  by_cases h : x = 1
  · subst h; rfl
  · have : un8 x ≠ 1 := fun e => h (un8_inj (e.trans rfl))
    simp [h, this]

set_option maxHeartbeats 4000000 in
theorem one_any (A : Option Addr) (n c : Nat) (l : List UInt8) (w : World) (hl : l.length = n) (hn : n ≤ 100000000) (hc : n ≤ c) (hr : RB w A l) :
    Calls Try.prog 60 #[.slice A n c] w fun e w' => e = .returned (oneRes l) ∧ Below w.heap.size w w' := by
  subst hl
  by_cases h9 : l.length < 9
  · have e := oneRes_none (oneOf_short h9)
    rw [e]
    clear hr e
    have h9' : (l.length : Int) < 9 := by omega
    go_enter Try.func60, Try.ntmps60
    go_wp2
    go_ret3
    exact ⟨rfl, Below.refl _ _⟩
  · obtain ⟨b, o, rfl, hcell⟩ := hr.parts (by omega)
    have HR := Lib.hid hr
    clear hr hcell
    have h9' : ¬ ((l.length : Int) < 9) := by omega
    have h8c : (8 : Int) ≤ (c : Int) := by omega
    obtain ⟨y, ey⟩ : ∃ y, y = four l := ⟨_, rfl⟩
    obtain ⟨z, ez⟩ : ∃ z, z = four (l.drop 4) := ⟨_, rfl⟩
    have hy := four_lt l
    have hz := four_lt (l.drop 4)
    obtain ⟨R, eR⟩ : ∃ R, R = oneRes l := ⟨_, rfl⟩
    rw [← eR]
    have ER := Lib.hid eR
    clear eR
    rw [← ey] at hy
    rw [← ez] at hz
    have EY := Lib.hid ey
    have EZ := Lib.hid ez
    have hl8 : (l.take 8).length = 8 := by rw [List.length_take]; omega
    have e4 : four ((l.take 8).drop 0) = y := by rw [ey]; exact four_take l 8 (by omega)
    have e8 : four ((l.take 8).drop (0 + 4)) = z := by rw [ez, show (l.take 8).drop (0 + 4) = (l.drop 4).take 4 by rw [List.drop_take]]; exact four_take _ 4 (by omega)
    have HL8 := Lib.hid hl8
    have E4 := Lib.hid e4
    have E8 := Lib.hid e8
    clear ey ez hl8 e4 e8
    go_enter Try.func60, Try.ntmps60
    go_wp2_with fail
    refine (newReader_any _ 8 c (l.take 8) _ HL8.out (by omega) (RB_take HR.out 8) (by simp)).mono ?_
    rintro e w1 ⟨q, v1, rfl, hw, hb⟩
    have W1 := Lib.hid hw
    have B1 := Lib.hid hb
    clear hw hb
    go_wp2_with fail
    refine (readerFour_any _ _ q v1 _ 0 W1.out (by rw [HL8.out]; omega) (by rw [HL8.out]; omega)).mono ?_
    rw [E4.out]
    rintro e w2 ⟨rfl, hw, hb⟩
    have W2 := Lib.hid hw
    have B2 := Lib.hid (B1.out.trans hb)
    clear hw hb
    go_wp2_with fail
    refine (readerFour_any _ _ q v1 _ (0 + 4) W2.out (by rw [HL8.out]; omega) (by rw [HL8.out]; omega)).mono ?_
    rw [E8.out]
    rintro e w3 ⟨rfl, _, hb⟩
    have B3 := Lib.hid (B2.out.trans hb)
    clear hb
    by_cases hbig : 4000 < y ∨ l.length - 9 < y
    · have e : oneRes l = .tuple #[.bool false, .string ⟨#[]⟩, .int .i64 0] := oneRes_none (by unfold oneOf; rw [if_neg h9, if_pos (by rw [← EY.out]; exact hbig)])
      have HRS := Lib.hid (ER.out.trans e)
      by_cases h4 : (4000 : Int) < (y : Int)
      · clear hbig e
        go_wp2
        go_ret3
        exact ⟨by rw [HRS.out]; rfl, B3.out⟩
      · have h5 : (l.length : Int) - 9 < (y : Int) := by omega
        clear hbig e
        go_wp2
        go_ret3
        exact ⟨by rw [HRS.out]; rfl, B3.out⟩
    · have h4 : ¬ ((4000 : Int) < (y : Int)) := by omega
      have h5 : ¬ ((l.length : Int) - 9 < (y : Int)) := by omega
      have h5' : (9 : Int) + (y : Int) ≤ (c : Int) := by omega
      have h6 : 9 + y ≤ l.length := by omega
      have hB : bodyOf l = (l.drop 8).take (1 + y) := by unfold bodyOf; rw [← EY.out]
      have hBl : (bodyOf l).length = 1 + y := by rw [hB]; simp; omega
      have hRB : RB w (some ⟨b, o + 8, none⟩) (bodyOf l) := by
        rw [hB]
        intro _
        obtain ⟨ad, e, hc⟩ := HR.out (by omega)
        cases e
        refine ⟨_, rfl, fun j hj => ?_⟩
        have h1 := hc (8 + j) (by simp at hj; omega)
        rw [add_off] at h1 ⊢
        rw [Nat.add_assoc, h1]
        simp
      have hone : oneRes l = if 1 < ((bodyOf l).headD 0).toNat ∨ (crcOf (bodyOf l)).toNat ≠ z then .tuple #[.bool false, .string ⟨#[]⟩, .int .i64 0] else .tuple #[.bool (decide ((bodyOf l).headD 0 = 1)), .string ⟨(bodyOf l).tail.toArray⟩, .int .i64 ((9 : Int) + ((bodyOf l).tail.length : Int))] := by
        unfold oneRes oneOf
        rw [if_neg h9, if_neg (by rw [← EY.out]; omega), ← EZ.out]
        by_cases hx : 1 < ((bodyOf l).headD 0).toNat ∨ (crcOf (bodyOf l)).toNat ≠ z
        · rw [if_pos hx, if_pos hx]
        · rw [if_neg hx, if_neg hx]
      rw [← ER.out] at hone
      generalize bodyOf l = body at *
      obtain ⟨x0, rest, rfl⟩ : ∃ x0 rest, body = x0 :: rest := by
        rcases body with _ | ⟨x0, rest⟩
        · simp at hBl; omega
        · exact ⟨x0, rest, rfl⟩
      simp only [List.headD_cons, List.tail_cons] at hone
      have hrl : rest.length = y := by simp at hBl; omega
      have HONE := Lib.hid hone
      have HRB := Lib.hid hRB
      have HRL := Lib.hid hrl
      have k1 := cell_below B3.out ((hRB.parts (by simp)).elim fun b' h => h.elim fun o' h => (by cases h.1; exact h.2 0 (by simp)) : w.cell? ⟨b, o + 8, none⟩ = some (.int .u8 (un8 x0)))
      clear hone hRB hrl hB hBl hbig
      have hc8 : ¬ (c = 8) := by omega
      have hx1 := un8_range x0
      by_cases hk : 1 < x0.toNat
      · have hk1 : (1 : Int) < un8 x0 := by unfold un8; omega
        have HRS := Lib.hid (HONE.out.trans (if_pos (.inl hk)))
        clear hk
        go_wp2_with fail
        go_ret3
        exact ⟨by rw [HRS.out]; rfl, B3.out⟩
      · have hk1 : ¬ ((1 : Int) < un8 x0) := by unfold un8; omega
        have hcr := un32_range (crcOf (x0 :: rest))
        have hwr : IntKind.i64.wrap (un32 (crcOf (x0 :: rest))) = un32 (crcOf (x0 :: rest)) := by rw [IntKind.wrap_i64]; omega
        by_cases hz : (crcOf (x0 :: rest)).toNat = z
        · have hz1 : un32 (crcOf (x0 :: rest)) = (z : Int) := by unfold un32; omega
          have HRS := Lib.hid (HONE.out.trans (if_neg (fun h => h.elim hk (fun h => h hz))))
          have hd1 : decide ((1 : Int) < un8 x0) = false := by simp; omega
          have hd2 : (un32 (crcOf (x0 :: rest)) != (z : Int)) = false := by simp [hz1]
          have HZ1 := Lib.hid hz1
          clear hk hz hz1
          go_wp2_with fail
          refine (crc_any (some ⟨b, o + 8, none⟩) _ _ (x0 :: rest) w3 (by have := HRL.out; simp; omega) (by omega) (HRB.out.below B3.out)).mono ?_
          rintro e w4 ⟨rfl, rfl⟩
          go_upto_region 10 with fail
          have h0y : 0 < 9 + y - 8 := by omega
          have hRr : RB w3.drew (some ⟨b, o + 8 + 1, none⟩) rest := by
            intro h0
            have h1 := HRB.out.below B3.out
            obtain ⟨ad, e, hc⟩ := h1 (by simp)
            cases e
            refine ⟨_, rfl, fun j hj => ?_⟩
            have h2 := hc (j + 1) (by simp; omega)
            rw [add_off] at h2 ⊢
            rw [show o + 8 + 1 + j = o + 8 + (j + 1) by omega]
            exact h2
          have hrl2 : rest.length = 9 + y - 8 - 1 := by have := HRL.out; omega
          have HST := Lib.hid (show (convert 37 9 (.slice (if c - 8 = 1 then some ⟨b, o + 8, none⟩ else some ⟨b, o + 8 + 1, none⟩) (9 + y - 8 - 1) (c - 8 - 1))).run Try.prog w3.drew = .ok (.string ⟨rest.toArray⟩) w3.drew by
            by_cases hcap : c - 8 = 1
            · rw [if_pos hcap]
              have hr0 : rest = [] := List.eq_nil_of_length_eq_zero (by omega)
              exact run_string_RB (P := Try.prog) _ 37 9 5 Try.underlying37 Try.underlying5 Try.underlying9 _ _ _ rest hrl2 (by rw [hr0]; exact RB.nil _ _)
            · rw [if_neg hcap]
              exact run_string_RB (P := Try.prog) _ 37 9 5 Try.underlying37 Try.underlying5 Try.underlying9 _ _ _ rest hrl2 hRr)
          clear hRr hrl2
          have hst := HST.out
          have hy9 : (9 : Int) + (y : Int) = (9 : Int) + (rest.length : Int) := by have := HRL.out; omega
          have HR2 := Lib.hid (show R = .tuple #[.bool (un8 x0 == 1), .string ⟨rest.toArray⟩, .int .i64 ((9 : Int) + (y : Int))] by rw [HRS.out, un8_one, hy9]; simp only [Value.tuple.injEq]; congr 3)
          clear hy9
          go_region
          all_goals
            clear hst h0y
            rename_i hK
            simp only [Exit.then]
            refine hK _ _ (wp_ret ?_)
            go_ret3
            exact ⟨by rw [HR2.out]; rfl, B3.out.drew⟩
        · have hz1 : ¬ (un32 (crcOf (x0 :: rest)) = (z : Int)) := by unfold un32; omega
          have HRS := Lib.hid (HONE.out.trans (if_pos (.inr hz)))
          have hd1 : decide ((1 : Int) < un8 x0) = false := by simp; omega
          have hd2 : (un32 (crcOf (x0 :: rest)) != (z : Int)) = true := by simp [hz1]
          clear hk hz hz1
          go_wp2_with fail
          refine (crc_any (some ⟨b, o + 8, none⟩) _ _ (x0 :: rest) w3 (by have := HRL.out; simp; omega) (by omega) (HRB.out.below B3.out)).mono ?_
          rintro e w4 ⟨rfl, rfl⟩
          go_wp2_with fail
          go_ret3
          exact ⟨by rw [HRS.out]; rfl, B3.out⟩

/-- Strings of bytes as cells. -/
def sv (l : List (List UInt8)) : List Value := l.map fun x => .string ⟨x.toArray⟩
theorem sv_append (l m : List (List UInt8)) : sv (l ++ m) = sv l ++ sv m := by simp [sv]
theorem sv_length (l : List (List UInt8)) : (sv l).length = l.length := by simp [sv]
theorem sv_one (l : List (List UInt8)) : ∀ u ∈ sv l, u.oneCell' = true := by
  intro u hu
  simp only [sv, List.mem_map] at hu
  obtain ⟨q, _, rfl⟩ := hu
  rfl
theorem infoS : (Try.prog.info? 9).map (fun i => (i.zero, i.size, i.bytes)) = some (some (.string ⟨#[]⟩), 1, 16) := by kernel_rfl

theorem RB_drop {w : World} {b o : Nat} {l : List UInt8} (h : RB w (some ⟨b, o, none⟩) l) (k : Nat) : RB w (some ⟨b, o + k, none⟩) (l.drop k) := by
  intro h0
  obtain ⟨ad, e, hc⟩ := h (by simp at h0; omega)
  cases e
  refine ⟨_, rfl, fun j hj => ?_⟩
  have h1 := hc (k + j) (by simp at hj; omega)
  rw [add_off] at h1 ⊢
  rw [Nat.add_assoc, h1]
  simp

/-- One step of scanning. -/
theorem scanGo_none {f : Nat} {b : List UInt8} {out : List (List UInt8)} {n : Nat} (h : oneOf b = none) : scanGo (f + 1) b out n = (out, n) := by
  unfold scanGo; rw [h]
theorem scanGo_some {f : Nat} {b : List UInt8} {out : List (List UInt8)} {n : Nat} {x : Bool} {r : List UInt8} (h : oneOf b = some (x, r)) :
    scanGo (f + 1) b out n = scanGo f (b.drop (9 + r.length)) ((if x then [] else out) ++ [r]) (n + (9 + r.length)) := by
  conv => lhs; unfold scanGo
  rw [h]

set_option maxHeartbeats 4000000 in
theorem scan_any (A : Option Addr) (n c : Nat) (l : List UInt8) (w : World) (hl : l.length = n) (hn : n ≤ 10000000) (hc : n ≤ c) (hr : RB w A l) :
    Calls Try.prog 26 #[.slice A n c] w fun e w' => ∃ v, e = .returned (.tuple #[v, .int .i64 ((scanOf l).2 : Nat)]) ∧ w'.ownsRow w.heap.size 9 1 v (scanOf l).1.length (sv (scanOf l).1) ∧ Below w.heap.size w w' := by
  subst hl
  have HR := Lib.hid hr
  clear hr
  obtain ⟨R, eR⟩ : ∃ R, R = scanOf l := ⟨_, rfl⟩
  rw [← eR]
  have ER := Lib.hid eR
  clear eR
  go_enter Try.func26, Try.ntmps26
  go_wp2_with fail
  refine wp_scope_loop 0 (fun a' w' => ∃ (at_ : Nat) (v : Value) (out : List (List UInt8)) (u6 u7 u8 u9 u10 u11 u12 u13 u14 u15 u16 u17 u18 u19 u20 u21 u22 u23 u24 u25 u26 u27 u28 : Value),
    a' = { tmps := #[.slice A l.length c, undef, .slice none 0 0, .int .i64 0, v, .int .i64 (at_ : Int), u6, u7, u8, u9, u10, u11, u12, u13, u14, u15, u16, u17, u18, u19, u20, u21, u22, u23, u24, u25, u26, u27, u28], defers := [] } ∧
    R = scanGo (l.length - at_ + 1) (l.drop at_) out at_ ∧ at_ ≤ l.length ∧ out.length ≤ at_ ∧ w'.ownsRow w.heap.size 9 1 v out.length (sv out) ∧ Below w.heap.size w w') (fun a' _ => ((l.length : Int) - intOf (a'.tmps.getD 5 undef)).toNat) rfl ?pass ?first
  case first =>
    intro hrest
    go_wp2_with fail
    go_step3
    rename_i hK
    refine hK _ _ (hrest _ _ ?_)
    exact ⟨0, _, [], _, _, _, _, _, _, _, _, _, _, _, _, _, _, _, _, _, _, _, _, _, _, _, rfl, ER.out, by omega, by simp, World.ownsRow_nil _ _ _ _, Below.refl _ _⟩
  case pass =>
    rintro a' w' ⟨at_, v, out, u6, u7, u8, u9, u10, u11, u12, u13, u14, u15, u16, u17, u18, u19, u20, u21, u22, u23, u24, u25, u26, u27, u28, rfl, hR, hat, hol, ho, hb⟩
    have HRR := Lib.hid hR
    have HO := Lib.hid ho
    have HB := Lib.hid hb
    have HOL := Lib.hid hol
    clear hR ho hb hol ER
    have hat' : (at_ : Int) ≤ (l.length : Int) := by omega
    have hrb : ∀ A', (A' = A ∧ c = at_) ∨ A' = Option.map (fun x => x.add at_) A → RB w' A' (l.drop at_) := by
      intro A' hA
      by_cases h0 : (l.drop at_).length = 0
      · rw [List.eq_nil_of_length_eq_zero h0]
        exact RB.nil _ _
      · have h1 : at_ < l.length := by simp at h0; omega
        obtain ⟨b, o, e, _⟩ := HR.out.parts (by omega)
        rcases hA with ⟨_, h⟩ | rfl
        · omega
        · have h2 := HR.out.below HB.out
          subst e
          have h3 := RB_drop h2 at_
          simpa [add_off] using h3
    have HRB := Lib.hid hrb
    clear hrb
    have hdl : (l.drop at_).length = l.length - at_ := by simp
    obtain ⟨d, ed⟩ : ∃ d, d = l.drop at_ := ⟨_, rfl⟩
    rw [← ed] at hdl HRR HRB
    have HDL := Lib.hid hdl
    have HED := Lib.hid ed
    clear hdl ed
    by_cases hcap : c = at_
    · subst hcap
      have hd0 : oneOf d = none := oneOf_short (by have := HDL.out; omega)
      have HD0 := Lib.hid hd0
      have HRA := Lib.hid (HRB.out A (.inl ⟨rfl, rfl⟩))
      clear hd0
      go_wp2_with fail
      refine (one_any A 0 0 d w' (by have := HDL.out; omega) (by omega) (by omega) HRA.out).mono ?_
      rintro e w1 ⟨rfl, hb⟩
      have hb1 := below_below HB.out HB.out.size hb
      have ho1 := own_below HO.out hb
      have HB1 := Lib.hid hb1
      have HO1 := Lib.hid ho1
      clear hb hb1 ho1
      have hd0 := HD0.out
      have hres := oneRes_none hd0
      rw [hres]
      have HR1 := Lib.hid (HRR.out.trans (scanGo_none hd0))
      clear hres hd0
      go_wp2_with fail
      simp only [Exit.jump]
      go_ret2
      rw [HR1.out]
      exact ⟨_, rfl, HO1.out, HB1.out⟩
    · go_wp2_with fail
      refine (one_any _ (l.length - at_) _ d w' HDL.out (by omega) (by omega) (HRB.out _ (.inr rfl))).mono ?_
      rintro e w1 ⟨rfl, hb⟩
      have hb1 := below_below HB.out HB.out.size hb
      have ho1 := own_below HO.out hb
      have HB1 := Lib.hid hb1
      have HO1 := Lib.hid ho1
      clear hb hb1 ho1
      cases hone : oneOf d with
      | none =>
        have hres := oneRes_none hone
        rw [hres]
        have HR1 := Lib.hid (HRR.out.trans (scanGo_none hone))
        clear hres hone
        go_wp2_with fail
        simp only [Exit.jump]
        go_ret2
        rw [HR1.out]
        exact ⟨_, rfl, HO1.out, HB1.out⟩
      | some xr =>
        obtain ⟨x, r⟩ := xr
        have hres : oneRes d = .tuple #[.bool x, .string ⟨r.toArray⟩, .int .i64 ((9 : Int) + (r.length : Int))] := by unfold oneRes; rw [hone]
        rw [hres]
        have hlen := oneOf_length hone
        have hle : at_ + (9 + r.length) ≤ l.length := by have := HDL.out; omega
        have HR1 := Lib.hid (show R = scanGo (l.length - (at_ + (9 + r.length)) + 1) (l.drop (at_ + (9 + r.length))) ((if x then [] else out) ++ [r]) (at_ + (9 + r.length)) by
          rw [HRR.out.trans (scanGo_some hone), HED.out, List.drop_drop]
          exact scanGo_fuel _ _ _ _ _ (by rw [List.length_drop]; omega) (by rw [List.length_drop]; omega))
        have h9z : ((9 : Int) + (r.length : Int) == 0) = false := by rw [beq_eq_false_iff_ne]; omega
        have h9r : (at_ : Int) + ((9 : Int) + (r.length : Int)) ≤ 10000000 := by omega
        have h9p : (0 : Int) ≤ (at_ : Int) + ((9 : Int) + (r.length : Int)) := by omega
        have HLE := Lib.hid hle
        have HAT := Lib.hid hat
        clear hres hone hlen hle hat
        cases x with
        | false =>
          go_wp2_with (at_builtin; refine append_any rfl _ _ 22 rfl w.heap.size 9 (.string ⟨#[]⟩) 1 16 Try.underlying22 infoS rfl (by omega) (by omega) v out.length (sv out) rfl (HO1.out.alloc _) _ 1 _ (sv [r]) rfl rfl (RC_newL w1 (sv [r]) 9) (sv_one _) ?c1 ?c2 ?_)
          case c1 => have := HOL.out; have := HAT.out; omega
          case c2 => have := HB1.out.size; simp; omega
          intro v2 w2 ho2 hg2 hat2
          have hb2 : Below w.heap.size w w2 := (HB1.out.alloc HB1.out.size _).grown hg2 (by have := HB1.out.size; simp; omega) (fun k hk => (World.ownsRow.lt HO1.out k hk).1)
          rw [← sv_append] at ho2
          have HO2 := Lib.hid ho2
          have HB2 := Lib.hid hb2
          clear ho2 hg2 hat2 hb2
          go_wp2_with fail
          go_step3
          refine ⟨rfl, ⟨at_ + (9 + r.length), v2, out ++ [r], _, _, _, _, _, _, _, _, _, _, _, _, _, _, _, _, _, _, _, _, _, _, _, by simp only [Int.natCast_add]; rfl, HR1.out, HLE.out, by have := HOL.out; simp; omega, by rw [List.length_append]; exact HO2.out, HB2.out⟩, ?_⟩
          have := HLE.out
          simp [intOf]
          omega
        | true =>
          go_wp2_with (at_builtin; refine append_any rfl _ _ 22 rfl w.heap.size 9 (.string ⟨#[]⟩) 1 16 Try.underlying22 infoS rfl (by omega) (by omega) (.slice none 0 0) 0 [] rfl (World.ownsRow_nil _ _ _ _) _ 1 _ (sv [r]) rfl rfl (RC_newL w1 (sv [r]) 9) (sv_one _) ?c1 ?c2 ?_)
          case c1 => omega
          case c2 => have := HB1.out.size; simp; omega
          intro v2 w2 ho2 hg2 hat2
          have hb2 : Below w.heap.size w w2 := (HB1.out.alloc HB1.out.size _).grown hg2 (by have := HB1.out.size; simp; omega) (fun k hk => by simp [Value.ownBlock] at hk)
          have ho2 : w2.ownsRow w.heap.size 9 1 v2 ([r] : List (List UInt8)).length (sv [r]) := ho2
          have HO2 := Lib.hid ho2
          have HB2 := Lib.hid hb2
          clear ho2 hg2 hat2 hb2
          go_wp2_with fail
          go_step3
          refine ⟨rfl, ⟨at_ + (9 + r.length), v2, [r], _, _, _, _, _, _, _, _, _, _, _, _, _, _, _, _, _, _, _, _, _, _, _, by simp only [Int.natCast_add]; rfl, HR1.out, HLE.out, by simp; omega, HO2.out, HB2.out⟩, ?_⟩
          have := HLE.out
          simp [intOf]
          omega

end Go.Proofs.Ythlbmjjodjepjaa
