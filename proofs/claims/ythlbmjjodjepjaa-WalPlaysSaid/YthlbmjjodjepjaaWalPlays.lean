/-
  The walk of the law WalPlays.
-/
import Derived.Test.YthlbmjjodjepjaaAskLog
import Derived.Test.YthlbmjjodjepjaaKnown6
import Derived.Test.YthlbmjjodjepjaaRefWal
import Derived.Test.YthlbmjjodjepjaaOutline
import Derived.Deep.CutBlock
set_option linter.unusedVariables false
set_option linter.unusedSimpArgs false
namespace Go.Proofs.Ythlbmjjodjepjaa
open Go.RowKit

theorem frames_small200 : ∀ (l : List (Bool × List UInt8)), (∀ x ∈ l, x.2.length ≤ 200) → (framesOf l).length ≤ 209 * l.length
  | [], _ => by simp [framesOf]
  | x :: l, h => by
    have h1 := frames_small200 l (fun y hy => h y (by simp [hy]))
    have h2 := h x (by simp)
    rw [framesOf_cons, List.length_append, frameOf_length, List.length_cons]
    omega
theorem fold_lenP : ∀ (l : List (Bool × List UInt8)) (out : List (List UInt8)), (l.foldl applyOne out).length ≤ out.length + l.length
  | [], out => by simp
  | x :: l, out => by
    have h := fold_lenP l (applyOne out x)
    rw [List.foldl_cons, List.length_cons]
    have : (applyOne out x).length ≤ out.length + 1 := by unfold applyOne; cases x.1 <;> simp
    omega
theorem crash_plays (fs : List (Bool × List UInt8)) (K : Nat) (hs : ∀ x ∈ fs, x.2.length ≤ 4000) (hK : K ≤ (framesOf fs).length) :
    ∃ m, m ≤ fs.length ∧ scanOf ((framesOf fs).take K) = ((fs.take m).foldl applyOne [], (framesOf (fs.take m)).length) ∧ ((framesOf fs).take K).take (framesOf (fs.take m)).length = framesOf (fs.take m) := by
  obtain ⟨m, t, hm, ht, ho, _, _⟩ := frames_cut fs K hs hK
  refine ⟨m, hm, ?_, ?_⟩
  · rw [ht]; exact scanOf_frames _ t (fun x hx => hs x (List.mem_of_mem_take hx)) ho
  · rw [ht, List.take_left]
theorem fold_snoc (fs : List (Bool × List UInt8)) (f : Bool) (x : List UInt8) : (fs ++ [(f, x)]).foldl applyOne [] = applyOne (fs.foldl applyOne []) (f, x) := by rw [List.foldl_append]; rfl

theorem foot_apart {pl pd cs sz z : Nat} {va vd va' vd' : Value} {k : Nat} (hft : ∀ k, LogAt.foot pl pd va vd k → k < z) (hz : z < cs) (h1 : cs ≤ k) (h2 : k < sz)
    (hv1 : ∀ k, va'.ownBlock = some k → va.ownBlock = some k ∨ sz ≤ k) (hv2 : ∀ k, vd'.ownBlock = some k → vd.ownBlock = some k ∨ sz ≤ k) : ¬ LogAt.foot pl pd va' vd' k := by
  rintro (h | h | h | h)
  · have := hft k (.inl h); omega
  · have := hft k (.inr (.inl h)); omega
  · rcases hv1 k h with h | h
    · have := hft k (.inr (.inr (.inl h))); omega
    · omega
  · rcases hv2 k h with h | h
    · have := hft k (.inr (.inr (.inr h))); omega
    · omega

section
variable {P : Program}
/-- An append that is wanted, in a region that draws. -/
theorem op_append_any {ops : Array Oper} {o : Oper} {a : Act} {K : Act → World → Prop} {Q : Exit → Act → World → Prop} {E : Prop} {w : World} (hw : Region.wanted o (yielded ops a.tmps) = true) (s x : Operand) (t : TypeId)
    (ho : o.op = .call { callee := .builtin .append, args := #[s, x], argTypes := #[t, t] })
    (base : Nat) (e : TypeId) (z : Value) (size bytes : Nat) (ht : P.underlying t = some (.slice e))
    (hinfo : (P.info? e).map (fun i => (i.zero, i.size, i.bytes)) = some (some z, size, bytes)) (hzs : z.cells.size = size) (hsz : 0 < size) (hb0 : 0 < bytes)
    (v : Value) (n : Nat) (xs : List Value) (hs : a.eval s = v) (hown : w.ownsRow base e size v n xs)
    (A : Option Addr) (m c : Nat) (news : List Value) (hx : a.eval x = .slice A m c) (hl : news.length = m * size) (hr : RC w A news) (h1 : ∀ u ∈ news, u.oneCell' = true)
    (hbytes : (n + m) * bytes ≤ 140737488355328) (hbase : base ≤ w.heap.size)
    (h : ∀ v' w', w'.ownsRow base e size v' (n + m) (xs ++ news) → w.grownBy w' v.ownBlock → (v'.ownBlock = v.ownBlock ∨ v'.ownBlock = some w.heap.size) → K (a.put o.dst v') w') :
    if Region.wanted o (yielded ops a.tmps) = true then Oper.wp P o a w K Q else E := by
  rw [if_pos hw]
  obtain ⟨v', w', hrun, h2, h3, h5⟩ := run_append_any (P := P) w base t o.type e z size bytes ht hinfo hzs hsz hb0 v n xs hown A m c news hl hr h1 hbytes hbase
  unfold Oper.wp execOp
  simp only [ho, resolve, invoke, builtin, Sem.run_bind, Sem.run_pure, Result.andThen_ok, List.map_toArray, List.map_cons, List.map_nil, hs, hx, hrun]
  exact h v' w' h2 h3 h5
end

set_option maxRecDepth 100000 in
set_option maxHeartbeats 16000000 in
theorem walPlays_any (A : Option Addr) (n c : Nat) (L : List (Int × Int × List UInt8)) (w : World) (hl : L.length = n) (hn : n ≤ 9223372036854775807) (hr : RL w A L) :
    Calls Try.prog 11 #[.slice A n c] w fun e w' => e = .returned (.bool true) ∧ Below w.heap.size w w' := by
  subst hl
  have HL := Lib.hid hr
  clear hr
  go_enter Try.func11, Try.ntmps11
  go_wp2_with fail
  refine (diskNew_any _).mono ?_
  rintro e w1 ⟨rfl, hd, hb⟩
  have D1 := Lib.hid hd
  have B1 := Lib.hid hb
  clear hd hb
  go_wp2_with fail
  refine (open_any _ _ _ _ [] 0 D1.out (scanOf_le _)).mono ?_
  rw [k6_open]
  rintro e w2 ⟨pl0, va0, vd0, rfl, hL, hu, _, _, _⟩
  have hL' : LogAt w2 w.heap.size pl0 w.heap.size va0 vd0 (([] : List (Bool × List UInt8)).foldl applyOne []) (framesOf []) 0 := hL
  have L2' := Lib.hid hL'
  have B2 := Lib.hid (D1.out.goes B1.out hu)
  clear hL hL' hu
  go_wp2_with fail
  go_loopg [4, 6] 60 (fun k s4 s6 wr => ∃ (i pl : Nat) (va vd : Value) (fs : List (Bool × List UInt8)) (safe : Nat), i ≤ L.length ∧ i ≤ 60 ∧ k = 60 - i ∧ s4 = .pointer (some ⟨pl, 0, none⟩) ∧ s6 = .int .i64 (i : Int) ∧ fs.length ≤ i ∧ (∀ x ∈ fs, x.2.length ≤ 200) ∧
    LogAt wr w.heap.size pl w.heap.size va vd (fs.foldl applyOne []) (framesOf fs) safe ∧ Below w.heap.size w wr)
  case atStart => exact ⟨0, pl0, va0, vd0, [], 0, Nat.zero_le _, by omega, by omega, rfl, rfl, by simp, by simp, L2'.out, B2.out⟩
  case round =>
    obtain ⟨i, pl, va, vd, fs, safe, hi, hi60, hk, rfl, rfl, hfl, hfs, hLg, hb⟩ := hrel
    have HK := Lib.hid hk
    have HFL := Lib.hid hfl
    have HFS := Lib.hid hfs
    have HLG := Lib.hid hLg
    have HB := Lib.hid hb
    clear hk hfl hfs hLg hb L2' B2 D1 B1
    by_cases hlt : i < L.length ∧ i < 60
    · obtain ⟨hlt, hlt60⟩ := hlt
      obtain ⟨⟨ab, ao, asp⟩, rfl, hcs⟩ := HL.out (by omega)
      have hsp : asp = none := by
        obtain ⟨g0, _⟩ := hcs 0 (by omega)
        simp only [Nat.zero_mul, Addr.add, if_true] at g0
        unfold World.cell? at g0
        cases asp with
        | none => rfl
        | some s => simp at g0; split at g0 <;> simp at g0
      subst hsp
      obtain ⟨h0, h1, h2, h6, h7⟩ := hcs i hlt
      rw [add_off] at h0 h1 h2
      rw [← Nat.add_assoc] at h1 h2
      have k0 := cell_below HB.out h0
      have k1 := cell_below HB.out h1
      have k2 := cell_below HB.out h2
      clear hcs h0 h1 h2
      generalize L[i].1 = kind at *
      generalize L[i].2.1 = nn at *
      generalize L[i].2.2 = x0 at *
      obtain ⟨sx0, esx⟩ : ∃ s, s = strB x0 := ⟨_, rfl⟩
      rw [← esx] at k2
      have hsz0 : sx0.size = x0.length := by rw [esx, strB_size]
      have ESX := Lib.hid esx
      have HLT := Lib.hid hlt
      have HLT60 := Lib.hid hlt60
      clear esx
      have HX0 := Lib.hid hsz0
      clear hsz0
      go_upto_if 46 with fail
      go_cut [46] (fun s46 wx => ∃ x : List UInt8, x.length ≤ 200 ∧ wx.heap[wr.heap.size]? = some (.cells #[.int .i64 kind, .int .i64 nn, .string (strB x)] 69 (0, 0)) ∧ Below wr.heap.size wr wx)
      case first =>
        have hal := (Below.refl wr.heap.size wr).alloc (Nat.le_refl _) (.cells #[.int .i64 kind, .int .i64 nn, .string sx0] 69)
        by_cases h200 : sx0.size ≤ 200
        · have g1 : ¬ ((200 : Int) < (sx0.size : Int)) := by omega
          go_wp2_with fail
          go_meet
          exact ⟨x0, by rw [← HX0.out]; exact h200, by rw [← ESX.out]; exact heap_alloc_new wr _, hal⟩
        · have g1 : (200 : Int) < (sx0.size : Int) := by omega
          have g2 : (200 : Int) ≤ (sx0.size : Int) := by omega
          clear h200
          have HZ : Hid (sx0.extract 0 200 = strB (x0.take 200)) := Lib.hid (by
            rw [ESX.out]
            have h := ByteArray.extract_mk x0 0 200
            simpa [strB] using h)
          go_wp2_with fail
          go_meet
          refine ⟨x0.take 200, by rw [List.length_take]; omega, ?_, ?_⟩
          · rw [← HZ.out]
            first | exact heap_alloc_new wr _ | (rw [setCell_at (heap_alloc_new wr _)]; rfl)
          · first | exact (Below.refl wr.heap.size wr).alloc (Nat.le_refl _) _ | exact hal.setCell (Nat.le_refl _) _
      case rest =>
        obtain ⟨x, hx200, hz, hbz⟩ := hcut
        have hzl : wr.heap.size < wc.heap.size := (Array.getElem?_eq_some_iff.1 hz).1
        have HFT := Lib.hid (HLG.out.foot_lt)
        have HLc := Lib.hid (HLG.out.below hbz)
        have HBc := Lib.hid (below_below HB.out HB.out.size hbz)
        have HZ := Lib.hid hz
        have HX200 := Lib.hid hx200
        have HZL := Lib.hid hzl
        have HRL := Lib.hid (show (fs.foldl applyOne []).length ≤ 60 by have h1 := fold_lenP fs []; have := HFL.out; rw [List.length_nil] at h1; omega)
        have HBL := Lib.hid (show (framesOf fs).length ≤ 12540 by have := frames_small200 fs HFS.out; have := HFL.out; omega)
        clear hbz hz hzl hx200 HLG HB k0 k1 k2 HX0 ESX
        generalize wr.heap.size = z at *
        obtain ⟨R, eR⟩ : ∃ R, R = fs.foldl applyOne [] := ⟨_, rfl⟩
        rw [← eR] at HLc HRL
        have ER := Lib.hid eR
        obtain ⟨fb, efb⟩ : ∃ fb, fb = framesOf fs := ⟨_, rfl⟩
        rw [← efb] at HLc HBL
        have EFB := Lib.hid efb
        clear eR efb
        go_wp2_with fail
        refine (logAll_any _ _ _ _ _ _ _ _ _ HLc.out (by have := HRL.out; omega)).mono ?_
        rintro e w4 ⟨v4, rfl, ho, hb⟩
        obtain ⟨A4, c4, rfl, _⟩ := own_slice ho
        obtain ⟨cs, hcs⟩ : ∃ cs, cs = wc.heap.size := ⟨_, rfl⟩
        have L4 := Lib.hid (HLc.out.below hb)
        have B4 := Lib.hid (below_below HBc.out HBc.out.size hb)
        have Z4 := Lib.hid ((hb.block z HZL.out).trans HZ.out)
        have HCW := Lib.hid (show w.heap.size ≤ cs by rw [hcs]; exact HBc.out.size)
        have HCS := Lib.hid (show z < cs by rw [hcs]; exact HZL.out)
        have HS4 := Lib.hid (show cs ≤ w4.heap.size by rw [hcs]; exact hb.size)
        rw [← hcs] at ho
        have O4 := Lib.hid ho
        clear ho hb hcs HLc HBc HZ HZL
        have cz0 : w4.cell? ⟨z, 0, none⟩ = some (.int .i64 kind) := (cell_of_row w4 z 0 _ _ _ Z4.out).trans rfl
        have cz1 : w4.cell? ⟨z, 1, none⟩ = some (.int .i64 nn) := (cell_of_row w4 z 1 _ _ _ Z4.out).trans rfl
        have cz2 : w4.cell? ⟨z, 2, none⟩ = some (.string (strB x)) := (cell_of_row w4 z 2 _ _ _ Z4.out).trans rfl
        go_upto_block 2 with fail
        go_cut [4] (fun s4 wx => ∃ (pl' : Nat) (va' vd' : Value) (fs' : List (Bool × List UInt8)) (safe' : Nat), s4 = .pointer (some ⟨pl', 0, none⟩) ∧ fs'.length ≤ i + 1 ∧ (∀ y ∈ fs', y.2.length ≤ 200) ∧
          LogAt wx w.heap.size pl' w.heap.size va' vd' (fs'.foldl applyOne []) (framesOf fs') safe' ∧ Below w.heap.size w wx)
        case first =>
          have HF1 : ∀ f, Hid ((fs ++ [(f, x)]).length ≤ i + 1 ∧ ∀ y ∈ fs ++ [(f, x)], y.2.length ≤ 200) := fun f => Lib.hid ⟨by have := HFL.out; simp; omega, by
            intro y hy
            rcases List.mem_append.1 hy with h | h
            · exact HFS.out y h
            · simp at h; rw [h]; exact HX200.out⟩
          by_cases hk1 : kind = 1
          · subst hk1
            go_upto_region 19 with fail
            go_cut [107] (fun s107 wx => s107 = .bool false ∧ ∃ va' vd', LogAt wx w.heap.size pl w.heap.size va' vd' (R ++ [x]) (fb ++ frameOf false x) safe ∧ Below w.heap.size w wx)
            case first =>
              go_region_law (first
                | (refine op_call (f := 35) #[.pointer (some ⟨pl, 0, none⟩), .string (strB x)] (by simp [Region.wanted]) rfl Try.func35 (by kernel_rfl) rfl (by simp [Act.eval, Act.put]) ?_; refine (logAppend_any w4.drew _ _ _ _ _ _ _ _ L4.out.drew x (by have := HX200.out; omega) (by have := HBL.out; have := HX200.out; omega) (by have := HRL.out; omega)).mono ?_; rintro e w5 ⟨va5, vd5, rfl, hL5, hu5, hv51, hv52⟩; have hB5 := L4.out.drew.goes B4.out.drew hu5; have hz5 : w5.heap[z]? = some (.cells #[.int .i64 1, .int .i64 nn, .string (strB x)] 69 (0, 0)) := (hu5.block z (Nat.lt_of_lt_of_le HCS.out HS4.out) (fun h => absurd (HFT.out z h) (Nat.lt_irrefl _))).trans Z4.out; have cx5 : w5.cell? ⟨z, 2, none⟩ = some (.string (strB x)) := (cell_of_row w5 z 2 _ _ _ hz5).trans rfl; have hs45 : w4.heap.size ≤ w5.heap.size := hu5.size; have hO5 := own_upd (show w4.drew.ownsRow cs 9 1 (.slice A4 R.length c4) R.length (sv R) from O4.out) hu5 (fun k hk hf => by have h1 := (World.ownsRow.lt O4.out k hk).1; have h2 := HFT.out k hf; have := HCS.out; omega); have hD5 : ∀ k, (Value.slice A4 R.length c4).ownBlock = some k → ¬ LogAt.foot pl w.heap.size va5 vd5 k := (fun k hk => foot_apart HFT.out HCS.out (World.ownsRow.lt O4.out k hk).1 (World.ownsRow.lt O4.out k hk).2 hv51 hv52); refine ⟨_, rfl, ?_⟩)
                | (refine op_call (f := 37) #[.pointer (some ⟨pl, 0, none⟩)] (wanted_on _ _ 5 97 false (by rfl) (by rfl) (by first | rfl | simp [Act.put])) rfl Try.func37 (by kernel_rfl) rfl (by simp [Act.eval, Act.put]) ?_; refine (logAll_any _ w.heap.size pl w.heap.size va5 vd5 (R ++ [x]) (fb ++ frameOf false x) safe (by first | exact hL5 | exact hL5.below ((Below.refl _ _).alloc (Nat.le_refl _) _)) (by have := HRL.out; simp; omega)).mono ?_; rintro e w6 ⟨v6, rfl, ho6, hb6⟩; obtain ⟨A6, c6, rfl, _⟩ := own_slice ho6; have hb56 : Below w5.heap.size w5 w6 := (by first | exact hb6 | exact below_below ((Below.refl w5.heap.size w5).alloc (Nat.le_refl _) _) (by simp) hb6); have hL6 := hL5.below hb56; have hO6 := own_below hO5 hb56; have cx6 := cell_below hb56 cx5; have hs56 := hb56.size; have hB6 := below_below hB5 hB5.size hb56; have ho6' := own_lower ho6 (base' := w5.heap.size) (by first | exact Nat.le_refl _ | simp); refine ⟨_, rfl, ?_⟩)
                | (refine op_append_any (wanted_on _ _ 5 97 false (by rfl) (by rfl) (by first | rfl | simp [Act.put])) _ _ 22 rfl cs 9 (.string ⟨#[]⟩) 1 16 Try.underlying22 infoS rfl (by omega) (by omega) (.slice A4 R.length c4) R.length (sv R) (by first | rfl | simp [Act.eval, Act.put]) (hO6.alloc _) (some ⟨w6.heap.size, 0, none⟩) 1 1 [.string (strB x)] (by first | rfl | simp [Act.eval, Act.put]) rfl (RC_newL w6 _ _) (by intro u hu; simp at hu; rw [hu]; rfl) (by have := HRL.out; omega) (by have := HS4.out; first | omega | (simp; omega)) ?_; intro v7 w7 ho7 hg7 hat7; obtain ⟨A7, c7, rfl, _⟩ := own_slice ho7; have U7 : Upd (fun k => (Value.slice A4 R.length c4).ownBlock = some k) w6 w7 := ((Upd.refl _ w6).alloc _).grown hg7 (fun k hk _ => hk); have hL7 := hL6.upd U7 (fun h => hD5 _ h (.inl rfl)) (fun h => hD5 _ h (.inr (.inl rfl))) (fun k hk h => hD5 k h (.inr (.inr (.inl hk)))) (fun k hk h => hD5 k h (.inr (.inr (.inr hk)))); have hP7 := own_upd ho6' U7 (fun k hk h => by have h1 := (World.ownsRow.lt ho6' k hk).1; have h2 := (World.ownsRow.lt O4.out k h).2; omega); have hB7 := below_upd hB6 hB6.size U7 (fun k hk => by have h1 := (World.ownsRow.lt O4.out k hk).1; have := HCW.out; omega); have hR7 : RS w7 A7 (R ++ [x]) := (by rw [RS, sv_append]; exact own_RC ho7); skip)
                | (refine op_append_any (wanted_on _ _ 5 97 false (by rfl) (by rfl) (by first | rfl | simp [Act.put])) _ _ 22 rfl cs 9 (.string ⟨#[]⟩) 1 16 Try.underlying22 infoS rfl (by omega) (by omega) (.slice A4 R.length c4) R.length (sv R) (by first | rfl | simp [Act.eval, Act.put]) (hO6) (some ⟨w5.heap.size, 0, none⟩) 1 1 [.string (strB x)] (by first | rfl | simp [Act.eval, Act.put]) rfl ((RC_newL w5 _ _).below hb6) (by intro u hu; simp at hu; rw [hu]; rfl) (by have := HRL.out; omega) (by have := HS4.out; first | omega | (simp; omega)) ?_; intro v7 w7 ho7 hg7 hat7; obtain ⟨A7, c7, rfl, _⟩ := own_slice ho7; have U7 : Upd (fun k => (Value.slice A4 R.length c4).ownBlock = some k) w6 w7 := (Upd.refl _ w6).grown hg7 (fun k hk _ => hk); have hL7 := hL6.upd U7 (fun h => hD5 _ h (.inl rfl)) (fun h => hD5 _ h (.inr (.inl rfl))) (fun k hk h => hD5 k h (.inr (.inr (.inl hk)))) (fun k hk h => hD5 k h (.inr (.inr (.inr hk)))); have hP7 := own_upd ho6' U7 (fun k hk h => by have h1 := (World.ownsRow.lt ho6' k hk).1; have h2 := (World.ownsRow.lt O4.out k h).2; omega); have hB7 := below_upd hB6 hB6.size U7 (fun k hk => by have h1 := (World.ownsRow.lt O4.out k hk).1; have := HCW.out; omega); have hR7 : RS w7 A7 (R ++ [x]) := (by rw [RS, sv_append]; exact own_RC ho7); skip)
                | (refine op_call (f := 28) #[.slice A6 (R ++ [x]).length c6, .slice A7 (R.length + 1) c7] (wanted_on _ _ 5 97 false (by rfl) (by rfl) (by first | rfl | simp [Act.put])) rfl Try.func28 (by kernel_rfl) rfl (by simp [Act.eval, Act.put]) ?_; refine (texts_any A6 A7 _ c6 _ c7 (R ++ [x]) (R ++ [x]) w7 rfl (by simp) (by have := HRL.out; simp; omega) (by have := HRL.out; omega) (own_RC hP7) hR7).mono ?_; rw [decide_eq_true rfl]; rintro e w8 ⟨rfl, hb8⟩; have hL8 := hL7.below hb8; have hB8 := below_below hB7 hB7.size hb8; refine ⟨_, rfl, ?_⟩))
              all_goals
                go_wp2_with fail
                go_meet
                exact ⟨rfl, va5, vd5, hL8, hB8⟩
            case rest =>
              obtain ⟨rfl, va', vd', hL', hb'⟩ := hcut
              have HL' := Lib.hid hL'
              have HB' := Lib.hid hb'
              clear hL' hb'
              go_wp2_with fail
              go_meet
              exact ⟨pl, va', vd', fs ++ [(false, x)], safe, rfl, (HF1 false).out.1, (HF1 false).out.2, by rw [fold_snoc, framesOf_snoc, ← ER.out, ← EFB.out]; exact HL'.out, HB'.out⟩
          · have hb1 : (kind == 1) = false := by rw [beq_eq_false_iff_ne]; exact hk1
            clear hk1
            by_cases hk2 : kind = 2
            · subst hk2
              clear hb1
              go_upto_region 22 with fail
              go_cut [123] (fun s123 wx => s123 = .bool false ∧ ∃ va' vd', LogAt wx w.heap.size pl w.heap.size va' vd' [x] (fb ++ frameOf true x) safe ∧ Below w.heap.size w wx)
              case first =>
                go_region_law (first
                  | (refine op_call (f := 38) #[.pointer (some ⟨pl, 0, none⟩), .string (strB x)] (by simp [Region.wanted]) rfl Try.func38 (by kernel_rfl) rfl (by simp [Act.eval, Act.put]) ?_; refine (logReset_any w4.drew _ _ _ _ _ _ _ _ L4.out.drew x (by have := HX200.out; omega) (by have := HBL.out; have := HX200.out; omega) ).mono ?_; rintro e w5 ⟨va5, vd5, rfl, hL5, hu5, hv51, hv52⟩; have hB5 := L4.out.drew.goes B4.out.drew hu5; have hz5 : w5.heap[z]? = some (.cells #[.int .i64 2, .int .i64 nn, .string (strB x)] 69 (0, 0)) := (hu5.block z (Nat.lt_of_lt_of_le HCS.out HS4.out) (fun h => absurd (HFT.out z h) (Nat.lt_irrefl _))).trans Z4.out; have cx5 : w5.cell? ⟨z, 2, none⟩ = some (.string (strB x)) := (cell_of_row w5 z 2 _ _ _ hz5).trans rfl; have hs45 : w4.heap.size ≤ w5.heap.size := hu5.size; have hO5 := own_upd (show w4.drew.ownsRow cs 9 1 (.slice A4 R.length c4) R.length (sv R) from O4.out) hu5 (fun k hk hf => by have h1 := (World.ownsRow.lt O4.out k hk).1; have h2 := HFT.out k hf; have := HCS.out; omega); have hD5 : ∀ k, (Value.slice A4 R.length c4).ownBlock = some k → ¬ LogAt.foot pl w.heap.size va5 vd5 k := (fun k hk => foot_apart HFT.out HCS.out (World.ownsRow.lt O4.out k hk).1 (World.ownsRow.lt O4.out k hk).2 hv51 hv52); refine ⟨_, rfl, ?_⟩)
                  | (refine op_call (f := 37) #[.pointer (some ⟨pl, 0, none⟩)] (wanted_on _ _ 5 115 false (by rfl) (by rfl) (by first | rfl | simp [Act.put])) rfl Try.func37 (by kernel_rfl) rfl (by simp [Act.eval, Act.put]) ?_; refine (logAll_any _ w.heap.size pl w.heap.size va5 vd5 [x] (fb ++ frameOf true x) safe (by first | exact hL5 | exact hL5.below ((Below.refl _ _).alloc (Nat.le_refl _) _)) (by simp)).mono ?_; rintro e w6 ⟨v6, rfl, ho6, hb6⟩; obtain ⟨A6, c6, rfl, _⟩ := own_slice ho6; have hb56 : Below w5.heap.size w5 w6 := (by first | exact hb6 | exact below_below ((Below.refl w5.heap.size w5).alloc (Nat.le_refl _) _) (by simp) hb6); have hL6 := hL5.below hb56; have hO6 := own_below hO5 hb56; have cx6 := cell_below hb56 cx5; have hs56 := hb56.size; have hB6 := below_below hB5 hB5.size hb56; have ho6' := own_lower ho6 (base' := w5.heap.size) (by first | exact Nat.le_refl _ | simp); refine ⟨_, rfl, ?_⟩)
                  | (refine op_call (f := 28) #[.slice A6 ([x] : List (List UInt8)).length c6, .slice (some ⟨w6.heap.size, 0, none⟩) 1 1] (wanted_on _ _ 5 115 false (by rfl) (by rfl) (by first | rfl | simp [Act.put])) rfl Try.func28 (by kernel_rfl) rfl (by simp [Act.eval, Act.put]) ?_; refine (texts_any A6 (some ⟨w6.heap.size, 0, none⟩) _ c6 1 1 [x] [x] (w6.alloc _) rfl rfl (by simp) (by omega) (own_RC (ho6.alloc _)) (RC_newL w6 _ _)).mono ?_; rw [decide_eq_true rfl]; rintro e w8 ⟨rfl, hb8⟩; have hb68 : Below w6.heap.size w6 w8 := below_below ((Below.refl w6.heap.size w6).alloc (Nat.le_refl _) _) (by simp) hb8; have hL8 := hL6.below hb68; have hB8 := below_below hB6 hB6.size hb68; refine ⟨_, rfl, ?_⟩)
                  | (refine op_call (f := 28) #[.slice A6 ([x] : List (List UInt8)).length c6, .slice (some ⟨w5.heap.size, 0, none⟩) 1 1] (wanted_on _ _ 5 115 false (by rfl) (by rfl) (by first | rfl | simp [Act.put])) rfl Try.func28 (by kernel_rfl) rfl (by simp [Act.eval, Act.put]) ?_; refine (texts_any A6 (some ⟨w5.heap.size, 0, none⟩) _ c6 1 1 [x] [x] w6 rfl rfl (by simp) (by omega) (own_RC ho6) ((RC_newL w5 _ _).below hb6)).mono ?_; rw [decide_eq_true rfl]; rintro e w8 ⟨rfl, hb8⟩; have hb68 : Below w6.heap.size w6 w8 := hb8; have hL8 := hL6.below hb68; have hB8 := below_below hB6 hB6.size hb68; refine ⟨_, rfl, ?_⟩))
                all_goals
                  go_wp2_with fail
                  go_meet
                  exact ⟨rfl, va5, vd5, hL8, hB8⟩
              case rest =>
                obtain ⟨rfl, va', vd', hL', hb'⟩ := hcut
                have HL' := Lib.hid hL'
                have HB' := Lib.hid hb'
                clear hL' hb'
                go_wp2_with fail
                go_meet
                exact ⟨pl, va', vd', fs ++ [(true, x)], safe, rfl, (HF1 true).out.1, (HF1 true).out.2, by rw [fold_snoc, framesOf_snoc, ← ER.out, ← EFB.out]; exact HL'.out, HB'.out⟩
            · have hb2 : (kind == 2) = false := by rw [beq_eq_false_iff_ne]; exact hk2
              clear hk2
              by_cases hk3 : kind = 3
              · subst hk3
                clear hb1 hb2
                go_wp2_with fail
                refine (logSync_any _ _ _ _ _ _ _ _ _ L4.out).mono ?_
                rintro e w5 ⟨va5, vd5, rfl, hL, hu, _, _⟩
                have L5 := Lib.hid hL
                have B5 := Lib.hid (L4.out.goes B4.out hu)
                clear hL hu
                go_wp2_with fail
                refine (diskSafe_any _ _ _ _ _ _ L5.out.disk).mono ?_
                rintro e w6 ⟨rfl, rfl⟩
                go_wp2_with fail
                refine (diskBytes_any _ _ _ _ _ _ L5.out.disk).mono ?_
                rintro e w7 ⟨x7, rfl, ho, hb⟩
                obtain ⟨A7, c7, rfl, _⟩ := own_slice ho
                have L7 := Lib.hid (L5.out.below hb)
                have B7 := Lib.hid (below_below B5.out B5.out.size hb)
                clear ho hb
                go_wp2_with fail
                go_meet
                exact ⟨pl, va5, vd5, fs, _, rfl, by have := HFL.out; omega, HFS.out, by rw [← ER.out, ← EFB.out]; exact L7.out, B7.out⟩
              · have hb3 : (kind == 3) = false := by rw [beq_eq_false_iff_ne]; exact hk3
                clear hk3
                have hKle := crashLen_le fb safe nn L4.out.disk.le
                obtain ⟨K, eK⟩ : ∃ K, K = crashLen fb safe nn := ⟨_, rfl⟩
                rw [← eK] at hKle
                have hKle' : K ≤ (framesOf fs).length := by rw [← EFB.out]; exact hKle
                obtain ⟨m, hm, hsc, htk⟩ := crash_plays fs K (fun y hy => by have := HFS.out y hy; omega) hKle'
                rw [← EFB.out] at hsc htk
                have HFM := Lib.hid (show (fs.take m).length ≤ i + 1 ∧ ∀ y ∈ fs.take m, y.2.length ≤ 200 from ⟨by have := HFL.out; rw [List.length_take]; omega, fun y hy => HFS.out y (List.mem_of_mem_take hy)⟩)
                have hR2l : ((fs.take m).foldl applyOne []).length ≤ 100 := by have h1 := fold_lenP (fs.take m) []; have := HFL.out; rw [List.length_take, List.length_nil] at h1; omega
                obtain ⟨R2, eR2⟩ : ∃ R2, R2 = (fs.take m).foldl applyOne [] := ⟨_, rfl⟩
                obtain ⟨f2, ef2⟩ : ∃ f2, f2 = framesOf (fs.take m) := ⟨_, rfl⟩
                rw [← eR2, ← ef2] at hsc
                rw [← ef2] at htk
                rw [← eR2] at hR2l
                have hdl : (fb.take K).length ≤ 12540 := by have := HBL.out; rw [List.length_take]; omega
                have hKt : K = (fb.take K).length := by rw [List.length_take]; omega
                obtain ⟨fk, efk⟩ : ∃ fk, fk = fb.take K := ⟨_, rfl⟩
                rw [← efk] at hsc htk hdl hKt
                have EFK := Lib.hid efk
                have EK := Lib.hid eK
                have HSC := Lib.hid hsc
                have HTK := Lib.hid htk
                have HDL := Lib.hid hdl
                have ER2 := Lib.hid eR2
                have EF2 := Lib.hid ef2
                have HR2L := Lib.hid hR2l
                clear hKle hKle' hm hsc htk eR2 ef2 hR2l hdl hKt efk eK
                go_wp2_with fail
                refine (diskCrash_any _ _ _ _ _ _ L4.out.disk nn h6.1 h6.2).mono ?_
                rw [← EK.out, ← EFK.out]
                rintro e w5 ⟨vd5, rfl, hd, hu, hv⟩
                have D5 := Lib.hid hd
                have B5 := Lib.hid (L4.out.disk.goes B4.out hu)
                clear hd hu hv
                go_wp2_with fail
                refine (diskBytes_any _ _ _ _ _ _ D5.out).mono ?_
                rintro e w6 ⟨x6, rfl, ho, hb⟩
                obtain ⟨A6, c6, rfl, hc6⟩ := own_slice ho
                have D6 := Lib.hid (D5.out.below hb)
                have B6 := Lib.hid (below_below B5.out B5.out.size hb)
                have O6 := Lib.hid ho
                clear ho hb
                go_wp2_with fail
                refine (refScan_any A6 _ c6 fk w6 rfl (by have := HDL.out; omega) hc6 (own_RC O6.out).bytes).mono ?_
                rw [HSC.out]
                rintro e w7 ⟨v7, rfl, ho, hb⟩
                obtain ⟨A7, c7, rfl, _⟩ := own_slice ho
                have D7 := Lib.hid (D6.out.below hb)
                have B7 := Lib.hid (below_below B6.out B6.out.size hb)
                have O7 := Lib.hid ho
                have HDF := Lib.hid (fun k (h : DiskAt.foot w.heap.size vd5 k) => D6.out.foot_lt k h)
                clear ho hb hc6 D5 D6 O6
                go_wp2_with fail
                refine (open_any _ _ _ _ _ K D7.out (scanOf_le _)).mono ?_
                rw [HSC.out]
                simp only [HTK.out]
                rintro e w8 ⟨pl8, va8, vd8, rfl, hL, hu, _, _, _⟩
                have L8 := Lib.hid hL
                have B8 := Lib.hid (D7.out.goes B7.out hu)
                have O8 := Lib.hid (own_upd O7.out hu (fun k hk hf => by have h1 := (World.ownsRow.lt O7.out k hk).1; have := HDF.out k hf; omega))
                clear hL hu D7 O7
                go_wp2_with fail
                refine (logAll_any _ _ _ _ _ _ _ _ _ L8.out (by have := HR2L.out; omega)).mono ?_
                rintro e w9 ⟨v9, rfl, ho, hb⟩
                obtain ⟨A9, c9, rfl, _⟩ := own_slice ho
                have L9 := Lib.hid (L8.out.below hb)
                have B9 := Lib.hid (below_below B8.out B8.out.size hb)
                have O9 := Lib.hid (own_below O8.out hb)
                have P9 := Lib.hid ho
                clear ho hb L8 O8
                go_wp2_with fail
                refine (texts_any _ _ _ _ _ _ R2 R2 _ rfl rfl (by have := HR2L.out; omega) (by have := HR2L.out; omega) (own_RC P9.out) (own_RC O9.out)).mono ?_
                rw [decide_eq_true rfl]
                rintro e w10 ⟨rfl, hb⟩
                have L10 := Lib.hid (L9.out.below hb)
                have B10 := Lib.hid (below_below B9.out B9.out.size hb)
                clear hb
                go_wp2_with fail
                refine (diskBytes_any _ _ _ _ _ _ L10.out.disk).mono ?_
                rintro e w11 ⟨x11, rfl, ho, hb⟩
                obtain ⟨A11, c11, rfl, _⟩ := own_slice ho
                have L11 := Lib.hid (L10.out.below hb)
                have B11 := Lib.hid (below_below B10.out B10.out.size hb)
                clear ho hb
                go_wp2_with fail
                go_meet
                exact ⟨pl8, va8, vd8, fs.take m, _, rfl, HFM.out.1, HFM.out.2, by rw [← ER2.out, ← EF2.out]; exact L11.out, B11.out⟩
        case rest =>
          obtain ⟨pl', va', vd', fs', safe', rfl, hfl', hfs', hL', hb'⟩ := hcut
          clear cz0 cz1 cz2 L4 B4 Z4 O4 HRL HBL ER EFB HFL HFS
          have HRL := Lib.hid (show (fs'.foldl applyOne []).length ≤ 100 by have h1 := fold_lenP fs' []; rw [List.length_nil] at h1; omega)
          have HBL := Lib.hid (show (framesOf fs').length ≤ 100000 by have := frames_small200 fs' hfs'; omega)
          have HSC := Lib.hid (scanOf_all fs' (fun y hy => by have := hfs' y hy; omega))
          have HFL := Lib.hid hfl'
          have HFS := Lib.hid hfs'
          have L5 := Lib.hid hL'
          have B5 := Lib.hid hb'
          obtain ⟨R', eR⟩ : ∃ R', R' = fs'.foldl applyOne [] := ⟨_, rfl⟩
          obtain ⟨f', ef⟩ : ∃ f', f' = framesOf fs' := ⟨_, rfl⟩
          rw [← eR] at HRL HSC L5
          rw [← ef] at HBL HSC L5
          have ER := Lib.hid eR
          have EF := Lib.hid ef
          clear hfl' hfs' hL' hb' eR ef
          go_wp2_with fail
          refine (diskBytes_any _ _ _ _ _ _ L5.out.disk).mono ?_
          rintro e w6 ⟨x6, rfl, ho, hb⟩
          obtain ⟨A6, c6, rfl, hc6⟩ := own_slice ho
          have L6 := Lib.hid (L5.out.below hb)
          have B6 := Lib.hid (below_below B5.out B5.out.size hb)
          have O6 := Lib.hid ho
          clear ho hb L5 B5
          go_wp2_with fail
          refine (refScan_any A6 _ c6 f' w6 rfl (by have := HBL.out; omega) hc6 (own_RC O6.out).bytes).mono ?_
          rw [HSC.out]
          rintro e w7 ⟨v7, rfl, ho, hb⟩
          obtain ⟨A7, c7, rfl, _⟩ := own_slice ho
          have L7 := Lib.hid (L6.out.below hb)
          have B7 := Lib.hid (below_below B6.out B6.out.size hb)
          have O7 := Lib.hid ho
          clear ho hb hc6 L6 B6 O6
          go_wp2_with fail
          refine (diskBytes_any _ _ _ _ _ _ L7.out.disk).mono ?_
          rintro e w8 ⟨x8, rfl, ho, hb⟩
          obtain ⟨A8, c8, rfl, _⟩ := own_slice ho
          have L8 := Lib.hid (L7.out.below hb)
          have B8 := Lib.hid (below_below B7.out B7.out.size hb)
          have O8 := Lib.hid (own_below O7.out hb)
          clear ho hb L7 B7 O7
          go_wp2_with fail
          refine (logAll_any _ _ _ _ _ _ _ _ _ L8.out (by have := HRL.out; omega)).mono ?_
          rintro e w9 ⟨v9, rfl, ho, hb⟩
          obtain ⟨A9, c9, rfl, _⟩ := own_slice ho
          have L9 := Lib.hid (L8.out.below hb)
          have B9 := Lib.hid (below_below B8.out B8.out.size hb)
          have O9 := Lib.hid (own_below O8.out hb)
          have P9 := Lib.hid ho
          clear ho hb L8 B8 O8
          go_wp2_with fail
          refine (texts_any _ _ _ _ _ _ R' R' _ rfl rfl (by have := HRL.out; omega) (by have := HRL.out; omega) (own_RC O9.out) (own_RC P9.out)).mono ?_
          rw [decide_eq_true rfl]
          rintro e w10 ⟨rfl, hb⟩
          have L10 := Lib.hid (L9.out.below hb)
          have B10 := Lib.hid (below_below B9.out B9.out.size hb)
          clear hb L9 B9 O9 P9
          go_wp2_with fail
          refine (logLen_any _ _ _ _ _ _ _ _ _ L10.out).mono ?_
          rintro e w11 ⟨rfl, rfl⟩
          go_wp2_with fail
          go_roundg (60 - (i + 1))
          case measure => have := HK.out; have := HLT60.out; omega
          case rel => exact ⟨i + 1, pl', va', vd', fs', safe', HLT.out, HLT60.out, rfl, rfl, by go_num, HFL.out, HFS.out, by rw [← ER.out, ← EF.out]; exact L10.out, B10.out⟩
    · have hd2 : ¬ (i < L.length) ∨ ¬ (i < 60) := by omega
      have HD2 := Lib.hid hd2
      clear hd2 hlt
      by_cases hA : i < L.length
      · have h60 : decide ((i : Int) < 60) = false := by have := HD2.out; simp; omega
        go_wp2_with fail
        refine (known6_any _).mono ?_
        rintro e w4 ⟨rfl, hb⟩
        have B4 := Lib.hid (below_below HB.out HB.out.size hb)
        clear hb
        go_wp2_with fail
        go_ret
        exact ⟨rfl, B4.out⟩
      · have hA' : decide ((i : Int) < (L.length : Int)) = false := by simp; omega
        go_wp2_with fail
        refine (known6_any _).mono ?_
        rintro e w4 ⟨rfl, hb⟩
        have B4 := Lib.hid (below_below HB.out HB.out.size hb)
        clear hb
        go_wp2_with fail
        go_ret
        exact ⟨rfl, B4.out⟩

end Go.Proofs.Ythlbmjjodjepjaa
