/-
  The walk of the law WalSurvives.
-/
import Derived.Test.YthlbmjjodjepjaaWalBack
import Derived.Deep.CutBlock
set_option linter.unusedVariables false
set_option linter.unusedSimpArgs false
namespace Go.Proofs.Ythlbmjjodjepjaa
open Go.RowKit

/-- Records with their marks. -/
def resOf (bs : List Bool) (l : List (List UInt8)) : List (Bool × List UInt8) := (List.range l.length).map fun j => (bs.getD j false, (l.getD j []).take 100)
theorem resOf_length (bs : List Bool) (l : List (List UInt8)) : (resOf bs l).length = l.length := by simp [resOf]
theorem resOf_snoc (bs : List Bool) (l : List (List UInt8)) (x : List UInt8) : resOf bs (l ++ [x]) = resOf bs l ++ [(bs.getD l.length false, x.take 100)] := by
  unfold resOf
  rw [List.length_append, List.length_singleton, List.range_succ, List.map_append]
  congr 1
  · apply List.map_congr_left
    intro j hj
    have := List.mem_range.1 hj
    simp only [List.getD_eq_getElem?_getD]
    rw [List.getElem?_append_left (by omega)]
  · simp [List.getD_eq_getElem?_getD]
theorem resOf_small (bs : List Bool) (l : List (List UInt8)) : ∀ x ∈ resOf bs l, x.2.length ≤ 100 := by
  intro x hx
  simp only [resOf, List.mem_map] at hx
  obtain ⟨j, _, rfl⟩ := hx
  simp
  omega
theorem plain_small100 (l : List (List UInt8)) : ∀ x ∈ plainOf l, x.2.length ≤ 100 := by
  intro x hx
  simp only [plainOf, fewsOf, List.map_map, List.mem_map] at hx
  obtain ⟨y, _, rfl⟩ := hx
  simp
  omega
theorem frames_small100 : ∀ (l : List (Bool × List UInt8)), (∀ x ∈ l, x.2.length ≤ 100) → (framesOf l).length ≤ 109 * l.length
  | [], _ => by simp [framesOf]
  | x :: l, h => by
    have h1 := frames_small100 l (fun y hy => h y (by simp [hy]))
    have h2 := h x (by simp)
    rw [framesOf_cons, List.length_append, frameOf_length, List.length_cons]
    omega
theorem framesOf_append (l m : List (Bool × List UInt8)) : framesOf (l ++ m) = framesOf l ++ framesOf m := by simp [framesOf]

/-- What is left of frames of which the first ones are safe. -/
theorem survive (P X : List (Bool × List UInt8)) (K : Nat) (hs : ∀ x ∈ P ++ X, x.2.length ≤ 4000) (h1 : (framesOf P).length ≤ K) (h2 : K ≤ (framesOf (P ++ X)).length) :
    ∃ j, j ≤ X.length ∧ (scanOf ((framesOf (P ++ X)).take K)).1 = (P ++ X.take j).foldl applyOne [] := by
  obtain ⟨m, t, hm, ht, ho, _, hmax⟩ := frames_cut (P ++ X) K hs h2
  have hPm : P.length ≤ m := by
    by_cases h : P.length ≤ m
    · exact h
    · have := hmax P.length (by omega) (by simp)
      rw [List.take_left] at this
      omega
  have e : (P ++ X).take m = P ++ X.take (m - P.length) := by rw [List.take_append, List.take_of_length_le hPm]
  refine ⟨m - P.length, by simp at hm; omega, ?_⟩
  rw [ht, scanOf_frames _ t (fun x hx => hs x (List.mem_of_mem_take hx)) ho, e]

theorem infoSS : (Try.prog.info? 22).map (fun i => (i.zero, i.size, i.bytes)) = some (some (.slice none 0 0), 1, 24) := by kernel_rfl

/-- A row of rows of strings; F: blocks that others may turn. -/
def StatesOf (w : World) (B : Nat) (v : Value) (vs : List Value) (Ls : List (List (List UInt8))) (F : Nat → Prop) : Prop :=
  vs.length = Ls.length ∧ w.ownsRow B 22 1 v Ls.length vs ∧ (∀ k, v.ownBlock = some k → ¬ F k) ∧ (∀ u ∈ vs, u.oneCell' = true) ∧
    ∀ j (h : j < Ls.length), ∃ A c, vs[j]? = some (.slice A Ls[j].length c) ∧ w.ownsRow B 9 1 (.slice A Ls[j].length c) Ls[j].length (sv Ls[j]) ∧ (∀ k, (Value.slice A Ls[j].length c).ownBlock = some k → ¬ F k ∧ v.ownBlock ≠ some k)

theorem StatesOf.log {w w' : World} {B : Nat} {v : Value} {vs : List Value} {Ls : List (List (List UInt8))} {F F' : Nat → Prop} (h : StatesOf w B v vs Ls F) (U : Upd F w w') (hF : ∀ k, k < w.heap.size → F' k → F k) : StatesOf w' B v vs Ls F' := by
  obtain ⟨h1, h2, h3, h4, h5⟩ := h
  refine ⟨h1, own_upd h2 U h3, fun k hk hf => h3 k hk (hF k (h2.lt k hk).2 hf), h4, fun j hj => ?_⟩
  obtain ⟨A, c, e1, e2, e3⟩ := h5 j hj
  exact ⟨A, c, e1, own_upd e2 U (fun k hk => (e3 k hk).1), fun k hk => ⟨fun hf => (e3 k hk).1 (hF k (e2.lt k hk).2 hf), (e3 k hk).2⟩⟩
theorem StatesOf.below {w w' : World} {B : Nat} {v : Value} {vs : List Value} {Ls : List (List (List UInt8))} {F : Nat → Prop} (h : StatesOf w B v vs Ls F) (hb : Below w.heap.size w w') : StatesOf w' B v vs Ls F :=
  h.log (Upd.of_below hb) (fun _ _ h => h)

theorem StatesOf.snoc {w w' : World} {B : Nat} {v v' : Value} {vs : List Value} {Ls : List (List (List UInt8))} {L : List (List UInt8)} {F : Nat → Prop} {A : Option Addr} {c : Nat} (h : StatesOf w B v vs Ls F) (hF : ∀ k, F k → k < w.heap.size)
    (hrow : w.ownsRow B 9 1 (.slice A L.length c) L.length (sv L)) (hnew : ∀ k, (Value.slice A L.length c).ownBlock = some k → ¬ F k ∧ v.ownBlock ≠ some k)
    (U : Upd (fun k => v.ownBlock = some k) w w') (ho : w'.ownsRow B 22 1 v' (Ls.length + 1) (vs ++ [.slice A L.length c])) (hv : ∀ k, v'.ownBlock = some k → v.ownBlock = some k ∨ w.heap.size ≤ k) :
    StatesOf w' B v' (vs ++ [.slice A L.length c]) (Ls ++ [L]) F := by
  obtain ⟨h1, h2, h3, h4, h5⟩ := h
  have key : ∀ (u : Value) (xs : List Value) (n : Nat), w.ownsRow B 9 1 u n xs → (∀ k, u.ownBlock = some k → ¬ F k ∧ v.ownBlock ≠ some k) → w'.ownsRow B 9 1 u n xs ∧ (∀ k, u.ownBlock = some k → ¬ F k ∧ v'.ownBlock ≠ some k) := by
    intro u xs n hu hk
    refine ⟨own_upd hu U (fun k e => (hk k e).2), fun k e => ⟨(hk k e).1, fun e' => ?_⟩⟩
    rcases hv k e' with h | h
    · exact (hk k e).2 h
    · have := (hu.lt k e).2; omega
  refine ⟨by simp [h1], by rw [List.length_append]; exact ho, ?_, ?_, ?_⟩
  · intro k hk hf
    rcases hv k hk with h | h
    · exact h3 k h hf
    · have := hF k hf; omega
  · intro u hu
    rcases List.mem_append.1 hu with h | h
    · exact h4 u h
    · simp at h; rw [h]; rfl
  · intro j hj
    by_cases hlt : j < Ls.length
    · obtain ⟨A', c', e1, e2, e3⟩ := h5 j hlt
      have hk := key _ _ _ e2 e3
      have e : (Ls ++ [L])[j] = Ls[j] := List.getElem_append_left hlt
      rw [e]
      exact ⟨A', c', by rw [List.getElem?_append_left (by omega)]; exact e1, hk.1, hk.2⟩
    · obtain rfl : j = Ls.length := by simp at hj; omega
      have hk := key _ _ _ hrow hnew
      have e : (Ls ++ [L])[Ls.length] = L := by simp
      rw [e]
      exact ⟨A, c, by rw [List.getElem?_append_right (by omega), h1]; simp, hk.1, hk.2⟩

/-- The foot of a log after a call: of the old blocks none more. -/
theorem foot_back {w : World} {pl pd : Nat} {va vd va' vd' : Value} (h1 : ∀ k, va'.ownBlock = some k → va.ownBlock = some k ∨ w.heap.size ≤ k) (h2 : ∀ k, vd'.ownBlock = some k → vd.ownBlock = some k ∨ w.heap.size ≤ k) :
    ∀ k, k < w.heap.size → LogAt.foot pl pd va' vd' k → LogAt.foot pl pd va vd k := by
  rintro k hk (rfl | rfl | h | h)
  · exact .inl rfl
  · exact .inr (.inl rfl)
  · rcases h1 k h with h | h
    · exact .inr (.inr (.inl h))
    · omega
  · rcases h2 k h with h | h
    · exact .inr (.inr (.inr h))
    · omega

/-- What the log held at each time. -/
def stsOf (P X : List (Bool × List UInt8)) : List (List (List UInt8)) := (List.range (X.length + 1)).map fun j => (P ++ X.take j).foldl applyOne []
theorem stsOf_length (P X : List (Bool × List UInt8)) : (stsOf P X).length = X.length + 1 := by simp [stsOf]
theorem stsOf_get (P X : List (Bool × List UInt8)) (j : Nat) (h : j < (stsOf P X).length) : (stsOf P X)[j] = (P ++ X.take j).foldl applyOne [] := by simp [stsOf]
theorem stsOf_snoc (P X : List (Bool × List UInt8)) (y : Bool × List UInt8) : stsOf P (X ++ [y]) = stsOf P X ++ [(P ++ (X ++ [y])).foldl applyOne []] := by
  unfold stsOf
  rw [List.length_append, List.length_singleton, List.range_succ (n := X.length + 1), List.map_append]
  congr 1
  · apply List.map_congr_left
    intro j hj
    have := List.mem_range.1 hj
    rw [List.take_append_of_le_length (by omega)]
  · rw [List.map_singleton, List.take_of_length_le (by simp)]
theorem stsOf_nil (P : List (Bool × List UInt8)) : stsOf P [] = [P.foldl applyOne []] := by simp [stsOf]
theorem fold_len : ∀ (l : List (Bool × List UInt8)) (out : List (List UInt8)), (l.foldl applyOne out).length ≤ out.length + l.length
  | [], out => by simp
  | x :: l, out => by
    have h := fold_len l (applyOne out x)
    rw [List.foldl_cons, List.length_cons]
    have : (applyOne out x).length ≤ out.length + 1 := by unfold applyOne; cases x.1 <;> simp
    omega
theorem plain_fold (l : List (List UInt8)) : (plainOf l).foldl applyOne [] = fewsOf l := by simp [plainOf, fold_plain]
theorem plainOf_length (l : List (List UInt8)) : (plainOf l).length = l.length := by simp [plainOf, fewsOf]

set_option maxRecDepth 100000 in
set_option maxHeartbeats 16000000 in
theorem walSurvives_any (A1 : Option Addr) (n1 c1 : Nat) (L1 : List (List UInt8)) (A2 : Option Addr) (n2 c2 : Nat) (L2 : List (List UInt8)) (A3 : Option Addr) (n3 c3 : Nat) (bs : List Bool) (keep : Int) (w : World)
    (hl1 : L1.length = n1) (hn1 : n1 ≤ 9223372036854775807) (hr1 : RS w A1 L1) (hl2 : L2.length = n2) (hn2 : n2 ≤ 9223372036854775807) (hr2 : RS w A2 L2) (hl3 : bs.length = n3) (hn3 : n3 ≤ 9223372036854775807) (hr3 : RC w A3 (bs.map Value.bool))
    (hk0 : -9223372036854775808 ≤ keep) (hk1 : keep ≤ 9223372036854775807) :
    Calls Try.prog 9 #[.slice A1 n1 c1, .slice A2 n2 c2, .slice A3 n3 c3, .int .i64 keep] w fun e w' => e = .returned (.bool true) ∧ Below w.heap.size w w' := by
  subst hl1
  subst hl2
  subst hl3
  have HL1 := Lib.hid hr1
  have HL2 := Lib.hid hr2
  have HL3 := Lib.hid hr3
  have HK0 := Lib.hid hk0
  have HK1 := Lib.hid hk1
  clear hr1 hr2 hr3 hk0 hk1
  go_enter Try.func9, Try.ntmps9
  go_wp2_with fail
  refine (diskNew_any _).mono ?_
  rintro e w1 ⟨rfl, hd, hb⟩
  have D1 := Lib.hid hd
  have B1 := Lib.hid hb
  clear hd hb
  go_wp2_with fail
  refine (open_any _ _ _ _ [] 0 D1.out (scanOf_le _)).mono ?_
  rw [k6_open]
  rintro e w2 ⟨pl, va, vd, rfl, hL, hu, _, _, _⟩
  have hL' : LogAt w2 w.heap.size pl w.heap.size va vd [] [] 0 := hL
  have L2' := Lib.hid hL'
  have B2 := Lib.hid (D1.out.goes B1.out hu)
  clear hL hL' hu
  go_upto_block 0 with fail
  go_cut [12] (fun s12 wx => ∃ (i : Nat) (va vd : Value), i ≤ L1.length ∧ i ≤ 10 ∧ LogAt wx w.heap.size pl w.heap.size va vd (fewsOf (L1.take i)) (framesOf (plainOf (L1.take i))) 0 ∧ Below w.heap.size w wx)
  case first =>
    go_wp2_with fail
    go_loopg [12] 10 (fun k s12 wr => ∃ (i : Nat) (va vd : Value), i ≤ L1.length ∧ i ≤ 10 ∧ k = 10 - i ∧ s12 = .int .i64 (i : Int) ∧ LogAt wr w.heap.size pl w.heap.size va vd (fewsOf (L1.take i)) (framesOf (plainOf (L1.take i))) 0 ∧ Below w.heap.size w wr)
    case atStart => exact ⟨0, va, vd, Nat.zero_le _, by omega, by omega, rfl, L2'.out, B2.out⟩
    case round =>
      obtain ⟨i, va, vd, hi, hi10, hk, rfl, hL, hb⟩ := hrel
      have HK := Lib.hid hk
      have HL := Lib.hid hL
      have HB := Lib.hid hb
      have HSM := Lib.hid (frames_small (L1.take i))
      have HLI := Lib.hid (show (L1.take i).length = i by rw [List.length_take]; omega)
      clear hk hL hb
      by_cases hlt : i < L1.length ∧ i < 10
      · obtain ⟨hlt, hlt10⟩ := hlt
        obtain ⟨bl, ol, rfl, e1⟩ := HL1.out.parts (by rw [sv_length]; omega)
        have k1 := cell_below HB.out (e1 i _ (sv_get' L1 i hlt))
        have HT := Lib.hid (List.take_succ_eq_append_getElem hlt)
        have HI := Lib.hid (strB_toList L1[i])
        generalize L1[i] = x at *
        generalize L1.take i = l0 at *
        clear e1
        generalize strB x = sx at *
        go_wp2_with fail
        refine (few_any sx _).mono ?_
        rw [HI.out]
        rintro e w3 ⟨rfl, rfl⟩
        go_wp2_with fail
        refine (logAppend_any _ _ _ _ _ _ _ _ _ HL.out (x.take 100) (by simp; omega) (by have := HSM.out; have := HLI.out; rw [List.length_take]; omega) (by rw [fewsOf_length, HLI.out]; omega)).mono ?_
        rintro e w4 ⟨va', vd', rfl, hL, hu, _, _⟩
        have HLx := Lib.hid (show LogAt w4 w.heap.size pl w.heap.size va' vd' (fewsOf (l0 ++ [x])) (framesOf (plainOf (l0 ++ [x]))) 0 by rw [fewsOf_snoc, plainOf_snoc, framesOf_snoc]; exact hL)
        have HBx := Lib.hid (HL.out.goes HB.out hu)
        clear hL hu
        go_wp2_with fail
        go_roundg (10 - (i + 1))
        case measure => have := HK.out; omega
        case rel => exact ⟨i + 1, va', vd', by omega, by omega, rfl, by go_num, by rw [HT.out]; exact HLx.out, HBx.out⟩
      · have HD2 := Lib.hid (show ¬ (i < L1.length) ∨ ¬ (i < 10) by omega)
        have HII := Lib.hid hi
        have HI10 := Lib.hid hi10
        clear hlt hi hi10 HK
        by_cases hA : i < L1.length
        · have h20 : decide ((i : Int) < 10) = false := by have := HD2.out; simp; omega
          go_wp2_with fail
          go_meet
          exact ⟨i, va, vd, HII.out, HI10.out, HL.out, HB.out⟩
        · have hA' : decide ((i : Int) < (L1.length : Int)) = false := by simp; omega
          go_wp2_with fail
          go_meet
          exact ⟨i, va, vd, HII.out, HI10.out, HL.out, HB.out⟩
  case rest =>
    obtain ⟨i0, va0, vd0, hi0, hi10, hL, hb⟩ := hcut
    have HLo := Lib.hid hL
    have HB := Lib.hid hb
    have hPl : (plainOf (L1.take i0)).length ≤ 10 := by rw [plainOf_length, List.length_take]; omega
    have HPS := Lib.hid (plain_small100 (L1.take i0))
    have HPF := Lib.hid (plain_fold (L1.take i0))
    have HFL := Lib.hid (show (fewsOf (L1.take i0)).length ≤ 10 by rw [fewsOf_length, List.length_take]; omega)
    generalize plainOf (L1.take i0) = P at *
    generalize fewsOf (L1.take i0) = r0 at *
    have HPL := Lib.hid hPl
    clear hL hb hi0 hi10 hPl L2' B2
    go_wp2_with fail
    refine (logSync_any _ _ _ _ _ _ _ _ _ HLo.out).mono ?_
    rintro e w3 ⟨va3, vd3, rfl, hL, hu, _, _⟩
    have L3 := Lib.hid hL
    have B3 := Lib.hid (HLo.out.goes HB.out hu)
    clear hL hu HLo HB
    go_wp2_with fail
    refine (logAll_any _ _ _ _ _ _ _ _ _ L3.out (by have := HFL.out; omega)).mono ?_
    rintro e w4 ⟨v4, rfl, ho, hb⟩
    obtain ⟨A4, c4, rfl, _⟩ := own_slice ho
    have hL4 := L3.out.below hb
    have hfl3 := L3.out.foot_lt
    have B4 := Lib.hid (below_below B3.out B3.out.size hb)
    have hS0 : StatesOf (w4.alloc (.cells #[.slice A4 r0.length c4] 22)) w.heap.size (.slice (some ⟨w4.heap.size, 0, none⟩) 1 1) [.slice A4 r0.length c4] [r0] (LogAt.foot pl w.heap.size va3 vd3) := by
      have hlt4 := hL4.foot_lt
      refine ⟨rfl, World.ownsRow_lit w4 #[.slice A4 r0.length c4] 1 B4.out.size (by simp [maxLen]) rfl, ?_, ?_, ?_⟩
      · intro k hk hf
        simp [Value.ownBlock] at hk
        have := hlt4 k hf
        omega
      · intro u hu
        simp at hu
        rw [hu]
        rfl
      · intro j hj
        obtain rfl : j = 0 := by simp at hj; omega
        refine ⟨A4, c4, rfl, own_lower (ho.alloc _) B3.out.size, fun k hk => ⟨fun hf => ?_, fun e => ?_⟩⟩
        · have h1 := (ho.lt k hk).1
          have := hfl3 k hf
          omega
        · have h1 := (ho.lt k hk).2
          simp [Value.ownBlock] at e
          omega
    have S0 := Lib.hid hS0
    have L4 := Lib.hid (hL4.below ((Below.refl w4.heap.size w4).alloc (Nat.le_refl _) (.cells #[.slice A4 r0.length c4] 22)))
    have B5 := Lib.hid (B4.out.alloc B4.out.size (.cells #[.slice A4 r0.length c4] 22))
    clear ho hb hL4 hfl3 hS0 L3 B3 B4
    go_upto_block 2 with fail
    go_cut [13] (fun s13 wx => ∃ (i : Nat) (va vd : Value) (vs : List Value), i ≤ 10 ∧ i ≤ L2.length ∧ LogAt wx w.heap.size pl w.heap.size va vd ((P ++ resOf bs (L2.take i)).foldl applyOne []) (framesOf (P ++ resOf bs (L2.take i))) (framesOf P).length ∧
      StatesOf wx w.heap.size s13 vs (stsOf P (resOf bs (L2.take i))) (LogAt.foot pl w.heap.size va vd) ∧ Below w.heap.size w wx)
    case first =>
      go_wp2_with fail
      go_loopg [13, 14] 10 (fun k s13 s14 wr => ∃ (i : Nat) (va vd : Value) (vs : List Value), i ≤ 10 ∧ i ≤ L2.length ∧ k = 10 - i ∧ s14 = .int .i64 (i : Int) ∧ LogAt wr w.heap.size pl w.heap.size va vd ((P ++ resOf bs (L2.take i)).foldl applyOne []) (framesOf (P ++ resOf bs (L2.take i))) (framesOf P).length ∧
        StatesOf wr w.heap.size s13 vs (stsOf P (resOf bs (L2.take i))) (LogAt.foot pl w.heap.size va vd) ∧ Below w.heap.size w wr)
      case atStart =>
        refine ⟨0, va3, vd3, [.slice A4 r0.length c4], by omega, Nat.zero_le _, by omega, rfl, ?_, ?_, B5.out⟩
        · rw [show resOf bs (L2.take 0) = [] from rfl, List.append_nil, HPF.out]; exact L4.out
        · rw [show resOf bs (L2.take 0) = [] from rfl, stsOf_nil, HPF.out]; exact S0.out
      case round =>
        obtain ⟨i, va, vd, vs, hi10, hi, hk, rfl, hL, hS, hb⟩ := hrel
        have HK := Lib.hid hk
        have HL := Lib.hid hL
        have HS := Lib.hid hS
        have HB := Lib.hid hb
        have HLI := Lib.hid (show (L2.take i).length = i by rw [List.length_take]; omega)
        clear hk hL hS hb S0 L4 B5
        by_cases hlt : i < L2.length ∧ i < 10
        · obtain ⟨hlt, hlt10⟩ := hlt
          obtain ⟨bl, ol, rfl, e1⟩ := HL2.out.parts (by rw [sv_length]; omega)
          have K1 := Lib.hid (e1 i _ (sv_get' L2 i hlt))
          have HT := Lib.hid (List.take_succ_eq_append_getElem hlt)
          have HI := Lib.hid (strB_toList L2[i])
          generalize L2[i] = x at *
          generalize L2.take i = l0 at *
          clear e1
          generalize strB x = sx at *
          obtain ⟨f, hf⟩ : ∃ f, f = bs.getD i false := ⟨_, rfl⟩
          obtain ⟨X, hX⟩ : ∃ X, X = resOf bs l0 := ⟨_, rfl⟩
          have HX1 := Lib.hid (show resOf bs (l0 ++ [x]) = X ++ [(f, x.take 100)] by rw [resOf_snoc, HLI.out, ← hX, ← hf])
          have HXL := Lib.hid (show X.length = i by rw [hX, resOf_length, HLI.out])
          have HXS := Lib.hid (show ∀ y ∈ P ++ X, y.2.length ≤ 100 by
            intro y hy
            rcases List.mem_append.1 hy with h | h
            · exact HPS.out y h
            · rw [hX] at h; exact resOf_small _ _ y h)
          rw [← hX] at HL HS
          clear hX
          have HLT := Lib.hid hlt
          have HLT10 := Lib.hid hlt10
          go_upto_region 14 with fail
          go_cut [75] (fun s75 wx => s75 = .bool f ∧ wr = wx)
          case first =>
            by_cases hbl : i < bs.length
            · obtain ⟨b3, o3, rfl, e3⟩ := HL3.out.parts (by rw [List.length_map]; omega)
              have k3 := cell_below HB.out (e3 i (.bool f) (by rw [List.getElem?_map, List.getElem?_eq_getElem hbl, hf, List.getD_eq_getElem?_getD, List.getElem?_eq_getElem hbl]; rfl))
              clear e3 hf
              go_wp2_with fail
              go_meet
              exact ⟨rfl, rfl⟩
            · have hf0 : f = false := by rw [hf, List.getD_eq_getElem?_getD, List.getElem?_eq_none (by omega)]; rfl
              subst hf0
              have hbl' : decide ((i : Int) < (bs.length : Int)) = false := by simp; omega
              clear hf
              go_wp2_with fail
              go_meet
              exact ⟨rfl, rfl⟩
          case rest =>
            obtain ⟨rfl, rfl⟩ := hcut
            clear hf
            go_upto_if 75 with fail
            have hbnd : (framesOf (P ++ X)).length ≤ 109 * 20 := by
              have h1 := frames_small100 (P ++ X) HXS.out
              rw [List.length_append, HXL.out] at h1
              have := HPL.out
              omega
            have hrcl : ((P ++ X).foldl applyOne []).length ≤ 20 := by
              have h1 := fold_len (P ++ X) []
              rw [List.length_append, HXL.out] at h1
              rw [List.length_nil] at h1
              have := HPL.out
              omega
            have HBN := Lib.hid hbnd
            have HRC := Lib.hid hrcl
            clear hbnd hrcl
            go_cut [75] (fun s75 wx => ∃ va' vd', LogAt wx w.heap.size pl w.heap.size va' vd' ((P ++ (X ++ [(f, x.take 100)])).foldl applyOne []) (framesOf (P ++ (X ++ [(f, x.take 100)]))) (framesOf P).length ∧ Upd (LogAt.foot pl w.heap.size va vd) wr wx ∧
              (∀ k, va'.ownBlock = some k → va.ownBlock = some k ∨ wr.heap.size ≤ k) ∧ (∀ k, vd'.ownBlock = some k → vd.ownBlock = some k ∨ wr.heap.size ≤ k))
            case first =>
              have k1 := cell_below HB.out K1.out
              have hrec : ∀ g : Bool, (P ++ (X ++ [(g, x.take 100)])).foldl applyOne [] = applyOne ((P ++ X).foldl applyOne []) (g, x.take 100) := fun g => by rw [← List.append_assoc, List.foldl_append]; rfl
              have hfrm : ∀ g : Bool, framesOf (P ++ (X ++ [(g, x.take 100)])) = framesOf (P ++ X) ++ frameOf g (x.take 100) := fun g => by rw [← List.append_assoc, framesOf_snoc]
              have HREC := Lib.hid hrec
              have HFRM := Lib.hid hfrm
              clear hrec hfrm
              cases f with
              | true =>
                go_wp2_with fail
                refine (few_any sx _).mono ?_
                rw [HI.out]
                rintro e w6 ⟨rfl, rfl⟩
                go_wp2_with fail
                refine (logReset_any _ _ _ _ _ _ _ _ _ HL.out (x.take 100) (by simp; omega) (by have := HBN.out; rw [List.length_take]; omega)).mono ?_
                rintro e w6 ⟨va', vd', rfl, hL, hu, h1, h2⟩
                have HLx := Lib.hid (show LogAt w6 w.heap.size pl w.heap.size va' vd' ((P ++ (X ++ [(true, x.take 100)])).foldl applyOne []) (framesOf (P ++ (X ++ [(true, x.take 100)]))) (framesOf P).length by rw [HREC.out, HFRM.out]; exact hL)
                have HUx := Lib.hid hu
                have HV1 := Lib.hid h1
                have HV2 := Lib.hid h2
                clear hL hu h1 h2
                go_wp2_with fail
                go_meet
                exact ⟨va', vd', HLx.out, HUx.out, HV1.out, HV2.out⟩
              | false =>
                go_wp2_with fail
                refine (few_any sx _).mono ?_
                rw [HI.out]
                rintro e w6 ⟨rfl, rfl⟩
                go_wp2_with fail
                refine (logAppend_any _ _ _ _ _ _ _ _ _ HL.out (x.take 100) (by simp; omega) (by have := HBN.out; rw [List.length_take]; omega) (by have := HRC.out; omega)).mono ?_
                rintro e w6 ⟨va', vd', rfl, hL, hu, h1, h2⟩
                have HLx := Lib.hid (show LogAt w6 w.heap.size pl w.heap.size va' vd' ((P ++ (X ++ [(false, x.take 100)])).foldl applyOne []) (framesOf (P ++ (X ++ [(false, x.take 100)]))) (framesOf P).length by rw [HREC.out, HFRM.out]; exact hL)
                have HUx := Lib.hid hu
                have HV1 := Lib.hid h1
                have HV2 := Lib.hid h2
                clear hL hu h1 h2
                go_wp2_with fail
                go_meet
                exact ⟨va', vd', HLx.out, HUx.out, HV1.out, HV2.out⟩
            case rest =>
              obtain ⟨va', vd', hL, hu, h1, h2⟩ := hcut
              have hS' := HS.out.log hu (foot_back h1 h2)
              have hB' := HL.out.goes HB.out hu
              have hrl : ((P ++ (X ++ [(f, x.take 100)])).foldl applyOne []).length ≤ 30 := by
                have h1 := fold_len (P ++ (X ++ [(f, x.take 100)])) []
                rw [List.length_append, List.length_append, HXL.out, List.length_nil] at h1
                simp at h1
                have := HPL.out
                simp
                omega
              have L7 := Lib.hid hL
              have S7 := Lib.hid hS'
              have B7 := Lib.hid hB'
              obtain ⟨rr, hrr⟩ : ∃ rr, rr = (P ++ (X ++ [(f, x.take 100)])).foldl applyOne [] := ⟨_, rfl⟩
              have HRR := Lib.hid hrr
              rw [← hrr] at L7 hrl
              have HRL := Lib.hid hrl
              clear hL hu h1 h2 hS' hB' hrr hrl
              go_wp2_with fail
              refine (logAll_any _ _ _ _ _ _ _ _ _ L7.out (by have := HRL.out; omega)).mono ?_
              rintro e w8 ⟨v8, rfl, ho, hb⟩
              obtain ⟨A8, c8, rfl, _⟩ := own_slice ho
              have L8 := Lib.hid (L7.out.below hb)
              have S8 := Lib.hid (S7.out.below hb)
              have B8 := Lib.hid (below_below B7.out B7.out.size hb)
              have O8 := Lib.hid ho
              have HSZ := Lib.hid hb.size
              clear ho hb
              have hsl : (stsOf P X).length ≤ 11 := by rw [stsOf_length, HXL.out]; have := HLT10.out; omega
              have HSL := Lib.hid hsl
              clear hsl
              go_wp2_with (at_builtin; refine append_any rfl _ _ 61 rfl w.heap.size 22 (.slice none 0 0) 1 24 Try.underlying61 infoSS rfl (by omega) (by omega) u13 (stsOf P X).length vs rfl (S8.out.2.1.alloc _) _ 1 _ [.slice A8 rr.length c8] rfl rfl (RC_newL w8 [.slice A8 rr.length c8] 22) (by intro u hu; simp at hu; rw [hu]; rfl) ?c1 ?c2 ?_)
              case c1 => have := HSL.out; omega
              case c2 => have := B8.out.size; simp; omega
              intro v9 w9 ho hg hat
              have hal := (Below.refl w8.heap.size w8).alloc (Nat.le_refl _) (.cells [.slice A8 rr.length c8].toArray 22)
              have hSa := S8.out.below hal
              have hfl := L7.out.foot_lt
              have hvl := fun k hk => (World.ownsRow.lt S7.out.2.1 k hk).2
              have hU9 : Upd (fun k => u13.ownBlock = some k) (w8.alloc (.cells [.slice A8 rr.length c8].toArray 22)) w9 := (Upd.refl _ _).grown hg (fun k hk _ => hk)
              have hs9 := hSa.snoc (L := rr) (A := A8) (c := c8) (fun k hk => by have := hfl k hk; have := HSZ.out; simp; omega) (own_lower (O8.out.alloc _) B7.out.size)
                (fun k hk => by
                  have h1 := (World.ownsRow.lt O8.out k hk).1
                  refine ⟨fun hf => ?_, fun e => ?_⟩
                  · have := hfl k hf; omega
                  · have := hvl k e; omega) hU9 ho
                (fun k hk => by
                  rcases hat with h | h
                  · exact .inl (h ▸ hk)
                  · rw [h] at hk; simp at hk; right; simp; omega)
              have hs9' : StatesOf w9 w.heap.size v9 (vs ++ [.slice A8 rr.length c8]) (stsOf P (X ++ [(f, x.take 100)])) (LogAt.foot pl w.heap.size va' vd') := by
                rw [stsOf_snoc, ← HRR.out]
                exact hs9
              have S9 := Lib.hid hs9'
              have hv8 : ∀ k, u13.ownBlock = some k → ¬ LogAt.foot pl w.heap.size va' vd' k := S8.out.2.2.1
              have L9 := Lib.hid ((L8.out.below hal).upd hU9 (fun h => hv8 _ h (.inl rfl)) (fun h => hv8 _ h (.inr (.inl rfl))) (fun k hk h => hv8 k h (.inr (.inr (.inl hk)))) (fun k hk h => hv8 k h (.inr (.inr (.inr hk)))))
              have B9 := Lib.hid (below_upd (below_below B8.out B8.out.size hal) (by have := B8.out.size; simp; omega) hU9 (fun k hk => (World.ownsRow.lt S8.out.2.1 k hk).1))
              clear ho hg hat hal hSa hfl hvl hU9 hs9 hs9' hv8
              go_wp2_with fail
              go_roundg (10 - (i + 1))
              case measure => have := HK.out; have := HLT10.out; omega
              case rel =>
                refine ⟨i + 1, va', vd', vs ++ [.slice A8 rr.length c8], HLT10.out, HLT.out, rfl, by go_num, ?_, ?_, B9.out⟩
                · rw [HT.out, HX1.out, ← HRR.out]; exact L9.out
                · rw [HT.out, HX1.out]; exact S9.out
        · have HD2 := Lib.hid (show ¬ (i < L2.length) ∨ ¬ (i < 10) by omega)
          have HII := Lib.hid hi
          have HI10 := Lib.hid hi10
          clear hlt hi hi10 HK
          by_cases hA : i < L2.length
          · have h20 : decide ((i : Int) < 10) = false := by have := HD2.out; simp; omega
            go_wp2_with fail
            go_meet
            exact ⟨i, va, vd, vs, HI10.out, HII.out, HL.out, HS.out, HB.out⟩
          · have hA' : decide ((i : Int) < (L2.length : Int)) = false := by simp; omega
            go_wp2_with fail
            go_meet
            exact ⟨i, va, vd, vs, HI10.out, HII.out, HL.out, HS.out, HB.out⟩
    case rest =>
      obtain ⟨i1, va5, vd5, vs, hi10, hi1, hL, hS, hb⟩ := hcut
      have HPXS := Lib.hid (show ∀ x ∈ P ++ resOf bs (L2.take i1), x.2.length ≤ 4000 by
        intro x hx
        rcases List.mem_append.1 hx with h | h
        · have := HPS.out x h; omega
        · have := resOf_small _ _ x h; omega)
      have hXl : (resOf bs (L2.take i1)).length ≤ 10 := by rw [resOf_length, List.length_take]; omega
      generalize resOf bs (L2.take i1) = X at *
      have hsl : (stsOf P X).length = X.length + 1 := stsOf_length P X
      obtain ⟨A13, c13, rfl, _⟩ := own_slice hS.2.1
      have hK1 : (framesOf P).length ≤ crashLen (framesOf (P ++ X)) (framesOf P).length keep := by unfold crashLen; omega
      have hK2 := crashLen_le (framesOf (P ++ X)) (framesOf P).length keep hL.disk.le
      obtain ⟨K, eK⟩ : ∃ K, K = crashLen (framesOf (P ++ X)) (framesOf P).length keep := ⟨_, rfl⟩
      rw [← eK] at hK1 hK2
      obtain ⟨j, hj, hsc⟩ := survive P X K HPXS.out hK1 hK2
      have HEK := Lib.hid eK
      have HSC := Lib.hid hsc
      have HJ := Lib.hid hj
      have HXL := Lib.hid hXl
      have HSL := Lib.hid hsl
      have L5 := Lib.hid hL
      have S5 := Lib.hid hS
      have B5 := Lib.hid hb
      clear hK1 hK2 eK hsc hj hXl hL hS hb hi10 hi1 S0 L4
      go_wp2_with fail
      refine (diskCrash_any _ _ _ _ _ _ L5.out.disk keep HK0.out HK1.out).mono ?_
      rw [← HEK.out]
      rintro e w6 ⟨vd6, rfl, hd, hu, hv⟩
      have hS6 := S5.out.log (F' := DiskAt.foot w.heap.size vd6) (hu.mono (fun k _ h => h.elim (fun h => .inr (.inl h)) (fun h => .inr (.inr (.inr h))))) (fun k hk h => by
        rcases h with h | h
        · exact .inr (.inl h)
        · rcases hv with e | e
          · exact .inr (.inr (.inr (e ▸ h)))
          · rw [e] at h; cases h; omega)
      have D6 := Lib.hid hd
      have S6 := Lib.hid hS6
      have B6 := Lib.hid (L5.out.disk.goes B5.out hu)
      clear hd hu hv hS6 L5 S5 B5
      go_wp2_with fail
      refine (open_any _ _ _ _ _ K D6.out (scanOf_le _)).mono ?_
      obtain ⟨R, eR⟩ : ∃ R, R = (scanOf ((framesOf (P ++ X)).take K)).1 := ⟨_, rfl⟩
      rw [← eR]
      rintro e w7 ⟨pm, va7, vd7, rfl, hL, hu, hpm, hv1, hv2⟩
      have hS7 := S6.out.log (F' := LogAt.foot pm w.heap.size va7 vd7) hu (fun k hk h => by
        rcases h with h | h | h | h
        · omega
        · exact .inl h
        · have := hv1 k h; omega
        · rcases hv2 k h with h | h
          · exact .inr h
          · omega)
      have hRj := eR.trans HSC.out
      have hRl : R.length ≤ 30 := by
        have h1 := fold_len (P ++ X.take j) []
        rw [← hRj, List.length_append, List.length_take, List.length_nil] at h1
        have := HPL.out
        have := HXL.out
        omega
      have HRJ := Lib.hid hRj
      have HRL := Lib.hid hRl
      have L7 := Lib.hid hL
      have S7 := Lib.hid hS7
      have B7 := Lib.hid (D6.out.goes B6.out hu)
      clear eR hL hu hpm hv1 hv2 hS7 hRj hRl D6 S6 B6
      go_wp2_with fail
      go_loopg [17] 20 (fun q s17 wx => ∃ i : Nat, i ≤ j ∧ q = 20 - i ∧ s17 = .int .i64 (i : Int) ∧ Below w7.heap.size w7 wx)
      case atStart => exact ⟨0, Nat.zero_le _, by omega, rfl, Below.refl _ _⟩
      case round =>
        obtain ⟨i, hi, hq, rfl, hb⟩ := hrel
        have HQ := Lib.hid hq
        have HB := Lib.hid hb
        clear hq hb
        have hil : i < (stsOf P X).length := by have := HJ.out; omega
        obtain ⟨Ai, ci, hcell, hown, hdis⟩ := S7.out.2.2.2.2 i hil
        clear hdis
        obtain ⟨g, o, rfl, hg⟩ := (own_RC S7.out.2.1).parts (by have := S7.out.1; omega)
        have k0 := cell_below HB.out (hg i _ hcell)
        have hget := stsOf_get P X i hil
        obtain ⟨Li, eLi⟩ : ∃ Li, Li = (stsOf P X)[i] := ⟨_, rfl⟩
        rw [← eLi] at hown k0 hget
        have HOWN := Lib.hid (own_below hown HB.out)
        have HGET := Lib.hid hget
        have hLil : Li.length ≤ 30 := by
          have h1 := fold_len (P ++ X.take i) []
          rw [← hget, List.length_append, List.length_take, List.length_nil] at h1
          have := HPL.out
          have := HXL.out
          omega
        have HLIL := Lib.hid hLil
        have hii : (i : Int) < ((stsOf P X).length : Int) := by omega
        have hi0 : (0 : Int) ≤ (i : Int) := by omega
        have hi20 : (i : Int) ≤ 20 := by have := HJ.out; have := HXL.out; omega
        have HI := Lib.hid hi
        have HIL := Lib.hid hil
        clear hcell hown hg eLi hget hLil hi hil
        by_cases heq : R = Li
        · have HEQ := Lib.hid heq
          clear heq
          go_upto_region 25 with fail
          go_region_law (first
            | (refine op_call #[.pointer (some ⟨pm, 0, none⟩)] (by simp [Region.wanted]) rfl Try.func37 (by kernel_rfl) rfl (by simp [Act.eval, Act.put]) ?_; refine (logAll_any wr.drew _ _ _ _ _ _ _ _ (L7.out.below HB.out).drew (by have := HRL.out; omega)).mono ?_; rintro e w8 ⟨v8, rfl, ho8, hb8⟩; obtain ⟨A8, c8, rfl, _⟩ := own_slice ho8; have k1 := cell_below (w := wr.drew) hb8 k0; have hown8 := own_below (w := wr.drew) HOWN.out hb8; refine ⟨_, rfl, ?_⟩)
            | (refine op_call #[.slice A8 R.length c8, .slice Ai Li.length ci] (by simp [Region.wanted]) rfl Try.func28 (by kernel_rfl) rfl (by simp [Act.eval, Act.put]) ?_; refine (texts_any _ _ _ _ _ _ R Li _ rfl rfl (by have := HRL.out; omega) (by have := HLIL.out; omega) (own_RC ho8) (own_RC hown8)).mono ?_; rw [decide_eq_true HEQ.out]; rintro e w9 ⟨rfl, hb9⟩; refine ⟨_, rfl, ?_⟩))
          all_goals
            have hbx : Below w7.heap.size w7 w9 := below_below (below_below HB.out.drew HB.out.size hb8) (Nat.le_trans HB.out.size hb8.size) hb9
            go_wp2_with fail
            refine (known6_any _).mono ?_
            rintro e w10 ⟨rfl, hb⟩
            go_wp2_with fail
            go_ret
            exact ⟨rfl, below_below (below_below B7.out B7.out.size hbx) (Nat.le_trans B7.out.size hbx.size) hb⟩
        · have HEQ := Lib.hid heq
          have HNE := Lib.hid (show i ≠ j by
            intro e
            subst e
            exact heq (HRJ.out.trans HGET.out.symm))
          clear heq
          go_upto_region 25 with fail
          go_region_law (first
            | (refine op_call #[.pointer (some ⟨pm, 0, none⟩)] (by simp [Region.wanted]) rfl Try.func37 (by kernel_rfl) rfl (by simp [Act.eval, Act.put]) ?_; refine (logAll_any wr.drew _ _ _ _ _ _ _ _ (L7.out.below HB.out).drew (by have := HRL.out; omega)).mono ?_; rintro e w8 ⟨v8, rfl, ho8, hb8⟩; obtain ⟨A8, c8, rfl, _⟩ := own_slice ho8; have k1 := cell_below (w := wr.drew) hb8 k0; have hown8 := own_below (w := wr.drew) HOWN.out hb8; refine ⟨_, rfl, ?_⟩)
            | (refine op_call #[.slice A8 R.length c8, .slice Ai Li.length ci] (by simp [Region.wanted]) rfl Try.func28 (by kernel_rfl) rfl (by simp [Act.eval, Act.put]) ?_; refine (texts_any _ _ _ _ _ _ R Li _ rfl rfl (by have := HRL.out; omega) (by have := HLIL.out; omega) (own_RC ho8) (own_RC hown8)).mono ?_; rw [decide_eq_false HEQ.out]; rintro e w9 ⟨rfl, hb9⟩; refine ⟨_, rfl, ?_⟩))
          all_goals
            have hbx : Below w7.heap.size w7 w9 := below_below (below_below HB.out.drew HB.out.size hb8) (Nat.le_trans HB.out.size hb8.size) hb9
            go_wp2_with fail
            go_roundg (20 - (i + 1))
            case measure => have := HQ.out; have := HI.out; have := HJ.out; have := HXL.out; omega
            case rel => exact ⟨i + 1, by have := HNE.out; have := HI.out; omega, rfl, by go_num, hbx⟩

end Go.Proofs.Ythlbmjjodjepjaa
