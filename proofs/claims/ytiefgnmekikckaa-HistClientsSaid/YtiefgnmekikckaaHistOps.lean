/-
  The walk of hist.Ops: events read as calls, or refused.
-/
import Derived.Test.YtiefgnmekikckaaHist
set_option linter.unusedVariables false
set_option linter.unusedSimpArgs false
namespace Go.Proofs.Ytiefgnmekikckaa
open Go.RowKit

theorem infoHo : (Try.prog.info? 67).map (fun i => (i.zero, i.size, i.bytes)) = some (some (.agg #[.int .i64 0, .slice none 0 0, .int .i64 0, .slice none 0 0, .int .i64 0, .int .i64 0, .int .i64 0, .int .i64 0]), 8, 96) := by kernel_rfl

/-- An event as it lies in memory. -/
structure Ev where
  kind : Int
  client : Int
  oA : Option Addr
  on : Nat
  oc : Nat
  ops : List Value
  out : Int
  tA : Option Addr
  tn : Nat
  tc : Nat
  texts : List (List UInt8)
  pl : Int
  why : Int
def in64 (k : Int) : Prop := -9223372036854775808 ≤ k ∧ k ≤ 9223372036854775807
def Ev.cells (q : Ev) : List Value := [.int .i64 q.kind, .int .i64 q.client, .slice q.oA q.on q.oc, .int .i64 q.out, .slice q.tA q.tn q.tc, .int .i64 q.pl, .int .i64 q.why]
structure EvOk (w : World) (q : Ev) : Prop where
  ol : q.ops.length = q.on * 4
  ob : q.on * 48 ≤ 140737488355328
  orc : RC w q.oA q.ops
  oone : ∀ u ∈ q.ops, u.oneCell' = true
  onil : q.oA = none → q.oc = 0 ∧ q.on = 0
  tl : q.texts.length = q.tn
  tb : q.tn * 16 ≤ 140737488355328
  trc : RS w q.tA q.texts
  tnil : q.tA = none → q.tc = 0 ∧ q.tn = 0
  k : in64 q.kind
  cl : in64 q.client
theorem EvOk.below {w w' : World} {q : Ev} (h : EvOk w q) (hb : Below w.heap.size w w') : EvOk w' q := { h with orc := h.orc.below hb, trc := h.trc.below hb }
/-- A slice of events that reads as L. -/
structure RE (w : World) (A : Option Addr) (L : List Ev) : Prop where
  cells : RC w A (L.flatMap Ev.cells)
  ok : ∀ q ∈ L, EvOk w q
theorem RE.below {w w' : World} {A : Option Addr} {L : List Ev} (h : RE w A L) (hb : Below w.heap.size w w') : RE w' A L := ⟨h.cells.below hb, fun q hq => (h.ok q hq).below hb⟩
theorem ev_length (L : List Ev) : (L.flatMap Ev.cells).length = L.length * 7 := by
  induction L with
  | nil => rfl
  | cons m L ih => rw [List.flatMap_cons, List.length_append, ih, List.length_cons]; show 7 + L.length * 7 = _; omega
theorem ev_drop (L : List Ev) (i : Nat) : (L.flatMap Ev.cells).drop (i * 7) = (L.drop i).flatMap Ev.cells := by
  induction i generalizing L with
  | zero => rfl
  | succ i ih =>
    cases L with
    | nil => simp
    | cons m L =>
      have e : (i + 1) * 7 = m.cells.length + i * 7 := by show _ = 7 + i * 7; omega
      rw [List.flatMap_cons, e, ← List.drop_drop, List.drop_left, ih, List.drop_succ_cons]
theorem ev_get (L : List Ev) (i j : Nat) (h : i < L.length) (hj : j < 7) : (L.flatMap Ev.cells)[i * 7 + j]? = L[i].cells[j]? := by
  rw [← List.getElem?_drop, ev_drop, List.drop_eq_getElem_cons h, List.flatMap_cons, List.getElem?_append_left (by show j < 7; exact hj)]

/-- A call as it lies in the row: whose, from, to; the rest is not told. -/
structure Ho where
  c : Int
  a1 : Value
  a2 : Value
  a3 : Value
  a4 : Value
  a5 : Value
  frm : Int
  tw : Int
def Ho.cells (h : Ho) : List Value := [.int .i64 h.c, h.a1, h.a2, h.a3, h.a4, h.a5, .int .i64 h.frm, .int .i64 h.tw]
def Ho.ok (h : Ho) : Prop := h.a1.oneCell' = true ∧ h.a2.oneCell' = true ∧ h.a3.oneCell' = true ∧ h.a4.oneCell' = true ∧ h.a5.oneCell' = true
abbrev Pc := Int × Int × Int
def Ho.plain (h : Ho) : Pc := (h.c, h.frm, h.tw)
def hcells (H : List Ho) : List Value := H.flatMap Ho.cells
theorem hcells_append (H M : List Ho) : hcells (H ++ M) = hcells H ++ hcells M := by simp [hcells]
theorem hcells_length (H : List Ho) : (hcells H).length = H.length * 8 := by
  induction H with
  | nil => rfl
  | cons m L ih => rw [hcells, List.flatMap_cons, List.length_append]; show 8 + (hcells L).length = _; rw [ih, List.length_cons]; omega
theorem hcells_one (H : List Ho) (h : ∀ x ∈ H, x.ok) : ∀ u ∈ hcells H, u.oneCell' = true := by
  intro u hu
  simp only [hcells, List.mem_flatMap] at hu
  obtain ⟨m, hm, hu⟩ := hu
  obtain ⟨h1, h2, h3, h4, h5⟩ := h m hm
  simp only [Ho.cells, List.mem_cons, List.not_mem_nil, or_false] at hu
  rcases hu with rfl | rfl | rfl | rfl | rfl | rfl | rfl | rfl <;> first | rfl | assumption
theorem hcells_drop (L : List Ho) (i : Nat) : (hcells L).drop (i * 8) = hcells (L.drop i) := by
  unfold hcells
  induction i generalizing L with
  | zero => rfl
  | succ i ih =>
    cases L with
    | nil => simp
    | cons m L =>
      have e : (i + 1) * 8 = m.cells.length + i * 8 := by show _ = 8 + i * 8; omega
      rw [List.flatMap_cons, e, ← List.drop_drop, List.drop_left, ih, List.drop_succ_cons]
theorem hcells_get (L : List Ho) (i j : Nat) (h : i < L.length) (hj : j < 8) : (hcells L)[i * 8 + j]? = L[i].cells[j]? := by
  rw [← List.getElem?_drop, hcells_drop, List.drop_eq_getElem_cons h, hcells, List.flatMap_cons, List.getElem?_append_left (by show j < 8; exact hj)]
theorem hcells_set (L : List Ho) (i : Nat) (h : i < L.length) (x : Ho) : hcells (L.set i x) = (hcells L).take (i * 8) ++ x.cells ++ (hcells L).drop ((i + 1) * 8) := by
  have h1 : L.set i x = L.take i ++ [x] ++ L.drop (i + 1) := by rw [List.set_eq_take_append_cons_drop, if_pos h, List.append_assoc]; rfl
  have h2 : (hcells L).take (i * 8) = hcells (L.take i) := by
    conv => lhs; rw [← List.take_append_drop i L, hcells_append]
    have e : i * 8 = (hcells (L.take i)).length := by rw [hcells_length, List.length_take]; omega
    rw [e]
    exact List.take_left
  rw [h1, hcells_append, hcells_append, h2, hcells_drop]
  simp [hcells]

theorem hset (H : List Ho) (p : Nat) (hp : p < H.length) (j : Nat) (hj : j < 8) (v : Value) (x : Ho) (hx : x.cells = (H[p]).cells.set j v) : (hcells H).set (p * 8 + j) v = hcells (H.set p x) := by
  have h1 : hcells H = (hcells H).take (p * 8) ++ (H[p]).cells ++ (hcells H).drop ((p + 1) * 8) := by
    have h := hcells_set H p hp H[p]
    rwa [List.set_getElem_self] at h
  have hl : ((hcells H).take (p * 8)).length = p * 8 := by rw [List.length_take, hcells_length]; omega
  rw [hcells_set H p hp x, hx]
  conv => lhs; rw [h1]
  rw [List.append_assoc, List.set_append_right _ _ (by rw [hl]; omega), hl, show p * 8 + j - p * 8 = j by omega, List.set_append_left _ _ (by show j < 8; exact hj), List.append_assoc]
/-- One event, by the document: the calls and the open ones behind it; none: it may not be. -/
def hstep (s : List Pc × (Int → Nat)) (i : Nat) (k c : Int) : Option (List Pc × (Int → Nat)) :=
  if k = 3 then some s
  else if (k ≠ 1 ∧ k ≠ 2) ∨ c < 0 ∨ ((k = 1) ≠ (s.2 c = 0)) then none
  else if k = 1 then some (s.1 ++ [(c, (i : Int), -1)], fun z => if z = c then s.1.length + 1 else s.2 z)
  else some (s.1.modify (s.2 c - 1) (fun q => (q.1, q.2.1, (i : Int))), fun z => if z = c then 0 else s.2 z)
def hrun : List (Int × Int) → Nat → List Pc × (Int → Nat) → Except Nat (List Pc × (Int → Nat))
  | [], _, s => .ok s
  | q :: l, i, s => match hstep s i q.1 q.2 with
    | some s' => hrun l (i + 1) s'
    | none => .error i
def hstart : List Pc × (Int → Nat) := ([], fun _ => 0)
def kc (q : Ev) : Int × Int := (q.kind, q.client)
/-- What the open calls are: places in the row. -/
def openOk (s : List Pc × (Int → Nat)) : Prop := ∀ c, s.2 c ≤ s.1.length

theorem hrun_snoc : ∀ (l : List (Int × Int)) (i : Nat) (s s' : List Pc × (Int → Nat)) (q : Int × Int), hrun l i s = .ok s' →
    hrun (l ++ [q]) i s = match hstep s' (i + l.length) q.1 q.2 with
      | some s2 => .ok s2
      | none => .error (i + l.length)
  | [], i, s, s', q, h => by
    cases h
    show (match hstep s i q.1 q.2 with | some s' => hrun [] (i + 1) s' | none => .error i) = _
    cases hstep s i q.1 q.2 <;> rfl
  | r :: l, i, s, s', q, h => by
    simp only [List.cons_append, hrun] at h ⊢
    cases hs : hstep s i r.1 r.2 with
    | none => rw [hs] at h; cases h
    | some s1 =>
      rw [hs] at h
      have := hrun_snoc l (i + 1) s1 s' q h
      simp only
      rw [this, List.length_cons, show i + 1 + l.length = i + (l.length + 1) by omega]
theorem hrun_stop : ∀ (l m : List (Int × Int)) (i j : Nat) (s : List Pc × (Int → Nat)), hrun l i s = .error j → hrun (l ++ m) i s = .error j
  | [], m, i, j, s, h => by cases h
  | r :: l, m, i, j, s, h => by
    simp only [List.cons_append, hrun] at h ⊢
    cases hs : hstep s i r.1 r.2 with
    | none => rw [hs] at h; exact h
    | some s1 =>
      rw [hs] at h
      exact hrun_stop l m (i + 1) j s1 h

/-- What hist.Ops leaves. -/
def OpsOut (w : World) (L : List Ev) (e : Ending) (w' : World) : Prop :=
  (∃ Pf x H, hrun (L.map kc) 0 hstart = .ok Pf ∧ e = .returned (.tuple #[x, .int .i64 0, .int .i64 0]) ∧ H.map Ho.plain = Pf.1 ∧ w'.ownsRow w.heap.size 67 8 x H.length (hcells H) ∧ Below w.heap.size w w') ∨
  (∃ i : Nat, hrun (L.map kc) 0 hstart = .error i ∧ e = .returned (.tuple #[.slice none 0 0, .int .i64 12, .int .i64 (i : Int)]) ∧ Below w.heap.size w w')

set_option maxRecDepth 100000 in
set_option maxHeartbeats 16000000 in
theorem ops_any (A : Option Addr) (n c : Nat) (L : List Ev) (w : World) (hl : L.length = n) (hn : n ≤ 1000) (hr : RE w A L) :
    Calls Try.prog 34 #[.slice A n c] w (OpsOut w L) := by
  subst hl
  have HL := Lib.hid hr
  have HN := Lib.hid hn
  have hmm := @run_makeMap Try.prog
  clear hr
  go_enter Try.func34, Try.ntmps34
  go_wp2_with fail
  have M1 := Lib.hid (MapAt.made w)
  have B1 := Lib.hid (show Below w.heap.size w (w.alloc (.map #[] 0)) from (Below.refl _ _).alloc (Nat.le_refl _) _)
  clear hmm
  go_loopg [5, 13] L.length (fun k s5 s13 wr => ∃ (i : Nat) (H : List Ho) (f : Int → Nat), i ≤ L.length ∧ k = L.length - i ∧ s13 = .int .i64 (i : Int) ∧ (∀ h ∈ H, h.ok) ∧ openOk (H.map Ho.plain, f) ∧ hrun ((L.take i).map kc) 0 hstart = .ok (H.map Ho.plain, f) ∧ H.length ≤ i ∧
      wr.ownsRow w.heap.size 67 8 s5 H.length (hcells H) ∧ MapAt wr w.heap.size i (fun z => (f z : Int)) ∧ s5.ownBlock ≠ some w.heap.size ∧ Below w.heap.size w wr)
  case atStart => exact ⟨0, [], fun _ => 0, Nat.zero_le _, by omega, rfl, (fun h hh => by cases hh), (fun c => Nat.zero_le _), rfl, Nat.le_refl _, World.ownsRow_nil _ _ _ _, M1.out, (fun h => by cases h), B1.out⟩
  case round =>
    obtain ⟨i, H, f, hi, hk, rfl, hok, hopen, hrun, hHi, ho, hm, hne, hb⟩ := hrel
    have HK := Lib.hid hk
    have HOK := Lib.hid hok
    have HOP := Lib.hid hopen
    have HRUN := Lib.hid hrun
    have HO := Lib.hid ho
    have HM := Lib.hid hm
    have HNE := Lib.hid hne
    have HB := Lib.hid hb
    clear hk hok hopen hrun ho hm hne hb M1 B1
    by_cases hlt : i < L.length
    · obtain ⟨b0, o0, rfl, r0⟩ := HL.out.cells.parts (by rw [ev_length]; omega)
      obtain ⟨q, hq⟩ : ∃ q, q = L[i] := ⟨_, rfl⟩
      have HQ := Lib.hid hq
      have hev := HL.out.ok L[i] (List.getElem_mem hlt)
      rw [← hq] at hev
      have rr : ∀ j u, j < 7 → q.cells[j]? = some u → wr.cell? ⟨b0, o0 + (i * 7 + j), none⟩ = some u := fun j u hj hu => cell_below HB.out (r0 (i * 7 + j) u (by rw [ev_get L i j hlt hj, ← hq]; exact hu))
      have k0 := rr 0 _ (by omega) rfl
      have k1 := rr 1 _ (by omega) rfl
      have k2 := rr 2 _ (by omega) rfl
      have k3 := rr 3 _ (by omega) rfl
      have k4 := rr 4 _ (by omega) rfl
      have k5 := rr 5 _ (by omega) rfl
      have k6 := rr 6 _ (by omega) rfl
      simp only [← Nat.add_assoc, Nat.add_zero] at k0 k1 k2 k3 k4 k5 k6
      have HEV := Lib.hid hev
      have i0 : (0 : Int) ≤ (i : Int) := by omega
      have i1 : (i : Int) < (L.length : Int) := by omega
      clear rr r0 hq hev
      go_upto_region 6 with fail
      obtain ⟨kd, cl, oA, on, oc, ops, out, tA, tn, tc, texts, pl, why⟩ := q
      simp only at *
      have HX := Lib.hid (heap_alloc_new wr (.cells #[.int .i64 kd, .int .i64 cl, .slice oA on oc, .int .i64 out, .slice tA tn tc, .int .i64 pl, .int .i64 why] 65))
      obtain ⟨W1, hW1⟩ : ∃ W1, W1 = wr.alloc (.cells #[.int .i64 kd, .int .i64 cl, .slice oA on oc, .int .i64 out, .slice tA tn tc, .int .i64 pl, .int .i64 why] 65) := ⟨_, rfl⟩
      rw [← hW1] at HX ⊢
      have bel : Below wr.heap.size wr W1 := by rw [hW1]; exact (Below.refl _ _).alloc (Nat.le_refl _) _
      clear hW1 k0 k1 k2 k3 k4 k5 k6
      have O2 := Lib.hid (own_below HO.out bel)
      have M2 := Lib.hid (HM.out.below bel)
      have B2 := Lib.hid (below_below HB.out HB.out.size bel)
      have E2 := Lib.hid (HEV.out.below B2.out)
      have SZ := Lib.hid HB.out.size
      have HGN := Lib.hid (show ¬ u5.ownBlock = some wr.heap.size from fun e => by have := (HO.out.lt _ e).2; omega)
      have e0 : W1.cell? ⟨wr.heap.size, 0, none⟩ = some (.int .i64 kd) := (cell_of_row W1 _ 0 _ _ _ HX.out).trans rfl
      have e1 : W1.cell? ⟨wr.heap.size, 1, none⟩ = some (.int .i64 cl) := (cell_of_row W1 _ 1 _ _ _ HX.out).trans rfl
      have lk := M2.out.look cl HEV.out.cl.1 HEV.out.cl.2
      have HSN := Lib.hid (show hrun ((L.take (i + 1)).map kc) 0 hstart = match hstep (H.map Ho.plain, f) i kd cl with
          | some s2 => .ok s2
          | none => .error i by
        have h := hrun_snoc ((L.take i).map kc) 0 hstart _ (kd, cl) HRUN.out
        rw [List.take_succ_eq_append_getElem hlt, List.map_append, List.map_cons, List.map_nil, ← HQ.out]
        have e : ((L.take i).map kc).length = i := by rw [List.length_map, List.length_take]; omega
        rw [e, Nat.zero_add] at h
        exact h)
      have HLT := Lib.hid hlt
      clear bel HO HM HB HQ HEV
      generalize hgb : wr.heap.size = gb at *
      clear hgb
      by_cases hk3 : kd = 3
      · subst hk3
        go_wp2_with fail
        go_roundg (L.length - (i + 1))
        case measure => have := HK.out; have := HLT.out; omega
        case rel => exact ⟨i + 1, H, f, HLT.out, rfl, by go_num, HOK.out, HOP.out, by rw [HSN.out]; rfl, by omega, O2.out, M2.out.mono (by omega), HNE.out, B2.out⟩
      · by_cases hbad : (kd ≠ 1 ∧ kd ≠ 2) ∨ cl < 0 ∨ ((kd = 1) ≠ (f cl = 0))
        · have HERR := Lib.hid (show hrun (L.map kc) 0 hstart = .error i by
            have h := HSN.out
            rw [show hstep (H.map Ho.plain, f) i kd cl = none by unfold hstep; rw [if_neg hk3, if_pos hbad]] at h
            have h2 := hrun_stop _ ((L.drop (i + 1)).map kc) 0 i hstart h
            rwa [← List.map_append, List.take_append_drop] at h2)
          clear HSN
          by_cases h12 : kd ≠ 1 ∧ kd ≠ 2
          · obtain ⟨h1, h2⟩ := h12
            clear hbad
            go_wp2_with fail
            exact bodyPost_ret (v := .tuple #[.slice none 0 0, .int .i64 12, .int .i64 (i : Int)]) (by simp [results, Try.results34, go_sem]) rfl (.inr ⟨i, HERR.out, rfl, B2.out⟩)
          · by_cases hcl : cl < 0
            · by_cases h1 : kd = 1
              · subst h1
                clear hbad h12
                go_wp2_with fail
                exact bodyPost_ret (v := .tuple #[.slice none 0 0, .int .i64 12, .int .i64 (i : Int)]) (by simp [results, Try.results34, go_sem]) rfl (.inr ⟨i, HERR.out, rfl, B2.out⟩)
              · obtain rfl : kd = 2 := by omega
                clear hbad h12
                go_wp2_with fail
                exact bodyPost_ret (v := .tuple #[.slice none 0 0, .int .i64 12, .int .i64 (i : Int)]) (by simp [results, Try.results34, go_sem]) rfl (.inr ⟨i, HERR.out, rfl, B2.out⟩)
            · by_cases h1 : kd = 1
              · subst h1
                have hf : ¬ ((f cl : Int) = 0) := by
                  rcases hbad with h | h | h
                  · omega
                  · omega
                  · intro h0
                    exact h (by simp; omega)
                clear hbad h12
                generalize (f cl : Int) = fc at *
                have hfb : (fc == 0) = false := by rw [beq_eq_false_iff_ne]; exact hf
                go_wp2_with fail
                exact bodyPost_ret (v := .tuple #[.slice none 0 0, .int .i64 12, .int .i64 (i : Int)]) (by simp [results, Try.results34, go_sem]) rfl (.inr ⟨i, HERR.out, rfl, B2.out⟩)
              · obtain rfl : kd = 2 := by omega
                have hf : (f cl : Int) = 0 := by
                  rcases hbad with h | h | h
                  · omega
                  · omega
                  · by_cases h0 : f cl = 0
                    · omega
                    · exact absurd (by simp [h0]) h
                rw [hf] at lk
                clear hbad h12 hf
                go_wp2_with fail
                exact bodyPost_ret (v := .tuple #[.slice none 0 0, .int .i64 12, .int .i64 (i : Int)]) (by simp [results, Try.results34, go_sem]) rfl (.inr ⟨i, HERR.out, rfl, B2.out⟩)
        · have hcl : ¬ cl < 0 := fun h => hbad (.inr (.inl h))
          by_cases h1 : kd = 1
          · subst h1
            have hf : f cl = 0 := by
              by_cases h0 : f cl = 0
              · exact h0
              · exact absurd (.inr (.inr (by simp [h0]))) hbad
            have HF := Lib.hid hf
            have HST := Lib.hid (show hstep (H.map Ho.plain, f) i 1 cl = some (H.map Ho.plain ++ [(cl, (i : Int), -1)], fun z => if z = cl then H.length + 1 else f z) by
              unfold hstep
              rw [if_neg hk3, if_neg hbad, if_pos rfl, List.length_map])
            rw [hf] at lk
            clear hbad hf hk3
            obtain ⟨Ax, cx, rfl, _⟩ := own_slice O2.out
            have e2 : W1.cell? ⟨gb, 2, none⟩ = some (.slice oA on oc) := (cell_of_row W1 _ 2 _ _ _ HX.out).trans rfl
            have hgb : gb < W1.heap.size := (Array.getElem?_eq_some_iff.1 HX.out).1
            have hH := HN
            go_upto_region 10 with fail
            go_region_law (first
              | (refine op_call #[.slice oA on oc] (by simp [Region.wanted]) rfl Try.func45 (by kernel_rfl) rfl (by simp [Act.eval, Act.put]) ?_; refine (cloneOps_any oA on oc ops W1.drew E2.out.ol E2.out.ob E2.out.orc E2.out.oone E2.out.onil).mono ?_; rintro e w5 ⟨A1, c1, rfl, hb5⟩; have k5 : w5.cell? ⟨gb, 1, none⟩ = some (.int .i64 cl) := cell_below hb5 e1; refine ⟨_, rfl, ?_⟩)
              | (refine step_append_any rfl (.tmp 49) (.tmp 57) 57 rfl w.heap.size 67 _ 8 96 Try.underlying57 infoHo rfl (by omega) (by omega) (.slice Ax H.length cx) _ _ (by simp [Act.eval, Act.put]) (World.ownsRow.alloc (own_below O2.out.drew hb5) _) _ 1 _ (hcells [⟨cl, .slice A1 on c1, .int .i64 0, .slice none 0 0, .int .i64 0, .int .i64 0, (i : Int), -1⟩]) (by simp [Act.eval, Act.put]; rfl) rfl (RC_newL w5 (hcells [⟨cl, .slice A1 on c1, .int .i64 0, .slice none 0 0, .int .i64 0, .int .i64 0, (i : Int), -1⟩]) 67) (hcells_one _ (fun x hx => by obtain rfl := List.mem_singleton.1 hx; exact ⟨rfl, rfl, rfl, rfl, rfl⟩)) (by have := HLT.out; omega) (by have := hb5.size; have := SZ.out; simp at *; omega) ?_; intro v6 w6 ho6 hg6 hv6))
            all_goals
              obtain ⟨A6, c6, rfl, _⟩ := own_slice ho6
              have hu : Upd (fun k => (Value.slice Ax H.length cx).ownBlock = some k) W1 w6 := ((Upd.of_below (F := fun k => (Value.slice Ax H.length cx).ownBlock = some k) ((Below.refl _ _).drew.trans hb5)).alloc _).grown hg6 (fun k hk _ => hk)
              have M6 := Lib.hid (M2.out.upd hu HNE.out)
              have B6 := Lib.hid (below_upd B2.out B2.out.size hu (fun k hk => (O2.out.lt k hk).1))
              have N6 := Lib.hid (show (Value.slice A6 (H.length + 1) c6).ownBlock ≠ some w.heap.size by
                rcases hv6 with e | e
                · rw [e]; exact HNE.out
                · rw [e]
                  intro e2
                  have h1 := hb5.size
                  have h2 := SZ.out
                  have h3 := Option.some.inj e2
                  simp at h1 h3
                  omega)
              have x6 := (hu.block gb hgb (fun hk => by
                have h1 := (O2.out.lt gb hk)
                exact HGN.out hk)).trans HX.out
              have e6 : w6.cell? ⟨gb, 1, none⟩ = some (.int .i64 cl) := (cell_of_row w6 _ 1 _ _ _ x6).trans rfl
              have O6 := Lib.hid ho6
              clear ho6 hg6 hv6 hu hb5 k5 x6
              go_wp2_with (at_mapUpdate; refine wpList_put rfl (.tmp 59) (.tmp 61) (.tmp 63) rfl w.heap.size i _ rfl M6.out (by omega) cl ((H.length : Int) + 1) rfl rfl E2.out.cl.1 E2.out.cl.2 (by omega) (by omega) ?_)
              intro w7 hm7 hg7
              have hu7 : Upd (fun k => k = w.heap.size) w6 w7 := (Upd.refl (fun k => k = w.heap.size) w6).grown hg7 (fun k hk _ => (Option.some.inj hk).symm)
              have O7 := Lib.hid (own_upd O6.out hu7 (fun k hk e => N6.out (by rw [hk, e])))
              have B7 := Lib.hid (below_upd B6.out B6.out.size hu7 (fun k e => by omega))
              have M7 := Lib.hid (show MapAt w7 w.heap.size (i + 1) (fun z => (((if z = cl then H.length + 1 else f z : Nat)) : Int)) by
                have e : (fun z => (((if z = cl then H.length + 1 else f z : Nat)) : Int)) = fun z => if z = cl then ((H.length : Int) + 1) else (f z : Int) := by
                  funext z
                  split
                  · simp
                  · rfl
                rw [e]
                exact hm7)
              clear hm7 hg7 hu7
              go_wp2_with fail
              go_roundg (L.length - (i + 1))
              case measure => have := HK.out; have := HLT.out; omega
              case rel =>
                refine ⟨i + 1, H ++ [⟨cl, .slice A1 on c1, .int .i64 0, .slice none 0 0, .int .i64 0, .int .i64 0, (i : Int), -1⟩], fun z => if z = cl then H.length + 1 else f z, HLT.out, rfl, by go_num, ?_, ?_, ?_, by rw [List.length_append]; show H.length + 1 ≤ _; omega, ?_, M7.out, N6.out, B7.out⟩
                · intro h hh
                  rcases List.mem_append.1 hh with hh | hh
                  · exact HOK.out h hh
                  · obtain rfl := List.mem_singleton.1 hh
                    exact ⟨rfl, rfl, rfl, rfl, rfl⟩
                · intro z
                  show (if z = cl then H.length + 1 else f z) ≤ ((H ++ [_]).map Ho.plain).length
                  rw [List.length_map, List.length_append, List.length_singleton]
                  have h := HOP.out z
                  simp only [List.length_map] at h
                  split <;> omega
                · rw [HSN.out, HST.out, List.map_append]
                  rfl
                · rw [hcells_append, List.length_append]
                  exact O7.out
          · obtain rfl : kd = 2 := by
              by_cases h2 : kd = 2
              · exact h2
              · exact absurd (.inl ⟨h1, h2⟩) hbad
            have hf : ¬ f cl = 0 := by
              intro h0
              exact hbad (.inr (.inr (by simp [h0])))
            have HST := Lib.hid (show hstep (H.map Ho.plain, f) i 2 cl = some ((H.map Ho.plain).modify (f cl - 1) (fun q => (q.1, q.2.1, (i : Int))), fun z => if z = cl then 0 else f z) by
              unfold hstep
              rw [if_neg hk3, if_neg hbad, if_neg h1])
            have hfl := HOP.out cl
            simp only [List.length_map] at hfl
            obtain ⟨p, hp⟩ : ∃ p, f cl = p + 1 := ⟨f cl - 1, by omega⟩
            have HP := Lib.hid hp
            rw [hp] at lk
            have hpl : p < H.length := by omega
            clear hbad hf hk3 h1 hp hfl
            obtain ⟨gx, cx, rfl, hbx, _⟩ := own_form O2.out (by omega)
            have e3 : W1.cell? ⟨gb, 3, none⟩ = some (.int .i64 out) := (cell_of_row W1 _ 3 _ _ _ HX.out).trans rfl
            have e4 : W1.cell? ⟨gb, 4, none⟩ = some (.slice tA tn tc) := (cell_of_row W1 _ 4 _ _ _ HX.out).trans rfl
            have e5 : W1.cell? ⟨gb, 5, none⟩ = some (.int .i64 pl) := (cell_of_row W1 _ 5 _ _ _ HX.out).trans rfl
            have e6 : W1.cell? ⟨gb, 6, none⟩ = some (.int .i64 why) := (cell_of_row W1 _ 6 _ _ _ HX.out).trans rfl
            have hgb : gb < W1.heap.size := (Array.getElem?_eq_some_iff.1 HX.out).1
            have p0 : (0 : Int) ≤ (p : Int) := by omega
            have p1 : (p : Int) < (H.length : Int) := by omega
            go_wp2_with fail
            refine (copy_any out pl why tA tn tc texts W1 E2.out.tl E2.out.tb E2.out.trc E2.out.tnil).mono ?_
            rintro e w5 ⟨A5, c5, rfl, hb5⟩
            have O5 := Lib.hid (own_below O2.out hb5)
            have M5 := Lib.hid (M2.out.below hb5)
            have B5 := Lib.hid (below_below B2.out B2.out.size hb5)
            have x5 := Lib.hid ((hb5.block gb hgb).trans HX.out)
            have f2 := O5.out.frozenAt (p * 8 + 2)
            have f3 := O5.out.frozenAt (p * 8 + 3)
            have f4 := O5.out.frozenAt (p * 8 + 4)
            have f5 := O5.out.frozenAt (p * 8 + 5)
            have f7 := O5.out.frozenAt (p * 8 + 7)
            have gt := fun j (hj : j < 8) => (O5.out.cellAt (p * 8 + j) (by omega)).trans (hcells_get H p j hpl hj)
            have g2 := gt 2 (by omega)
            have g3 := gt 3 (by omega)
            have g4 := gt 4 (by omega)
            have g5 := gt 5 (by omega)
            have g7 := gt 7 (by omega)
            simp only [Ho.cells, List.getElem?_cons_succ, List.getElem?_cons_zero] at g2 g3 g4 g5 g7
            clear hb5 gt
            go_upto_region 14 with fail
            obtain ⟨W6, hW6⟩ : ∃ W6, W6 = (((((w5.setCell ⟨gx, p * 8 + 2, none⟩ (.int .i64 out)).setCell ⟨gx, p * 8 + 2 + 1, none⟩ (.slice A5 tn c5)).setCell ⟨gx, p * 8 + 2 + 2, none⟩ (.int .i64 pl)).setCell ⟨gx, p * 8 + 2 + 3, none⟩ (.int .i64 why)).setCell ⟨gx, p * 8 + 7, none⟩ (.int .i64 (i : Int))) := ⟨_, rfl⟩
            rw [← hW6]
            obtain ⟨h', hh'⟩ : ∃ h' : Ho, h' = ⟨H[p].c, H[p].a1, .int .i64 out, .slice A5 tn c5, .int .i64 pl, .int .i64 why, H[p].frm, (i : Int)⟩ := ⟨_, rfl⟩
            have O6 := Lib.hid (show W6.ownsRow w.heap.size 67 8 (.slice (some ⟨gx, 0, none⟩) H.length cx) H.length (hcells (H.set p h')) by
              rw [hW6]
              have q2 := (O5.out.stored (p * 8 + 2) (.int .i64 out)).1
              have q3 := (q2.stored (p * 8 + 2 + 1) (.slice A5 tn c5)).1
              have q4 := (q3.stored (p * 8 + 2 + 2) (.int .i64 pl)).1
              have q5 := (q4.stored (p * 8 + 2 + 3) (.int .i64 why)).1
              have q7 := (q5.stored (p * 8 + 7) (.int .i64 (i : Int))).1
              have e : (((((hcells H).set (p * 8 + 2) (.int .i64 out)).set (p * 8 + 2 + 1) (.slice A5 tn c5)).set (p * 8 + 2 + 2) (.int .i64 pl)).set (p * 8 + 2 + 3) (.int .i64 why)).set (p * 8 + 7) (.int .i64 (i : Int)) = hcells (H.set p h') := by
                rw [hset H p hpl 2 (by omega) _ { H[p] with a2 := .int .i64 out } rfl]
                rw [show p * 8 + 2 + 1 = p * 8 + 3 by omega, hset _ p (by rw [List.length_set]; exact hpl) 3 (by omega) _ { H[p] with a2 := .int .i64 out, a3 := .slice A5 tn c5 } (by rw [List.getElem_set_self]; rfl), List.set_set]
                rw [show p * 8 + 2 + 2 = p * 8 + 4 by omega, hset _ p (by rw [List.length_set]; exact hpl) 4 (by omega) _ { H[p] with a2 := .int .i64 out, a3 := .slice A5 tn c5, a4 := .int .i64 pl } (by rw [List.getElem_set_self]; rfl), List.set_set]
                rw [show p * 8 + 2 + 3 = p * 8 + 5 by omega, hset _ p (by rw [List.length_set]; exact hpl) 5 (by omega) _ { H[p] with a2 := .int .i64 out, a3 := .slice A5 tn c5, a4 := .int .i64 pl, a5 := .int .i64 why } (by rw [List.getElem_set_self]; rfl), List.set_set]
                rw [hset _ p (by rw [List.length_set]; exact hpl) 7 (by omega) _ h' (by rw [List.getElem_set_self, hh']; rfl), List.set_set]
              rw [e] at q7
              exact q7)
            have hu : Upd (fun k => k = gx) w5 W6 := by
              rw [hW6]
              exact (((((Upd.refl (fun k => k = gx) w5).setCell (p := ⟨gx, p * 8 + 2, none⟩) (fun _ => rfl) _).setCell (p := ⟨gx, p * 8 + 2 + 1, none⟩) (fun _ => rfl) _).setCell (p := ⟨gx, p * 8 + 2 + 2, none⟩) (fun _ => rfl) _).setCell (p := ⟨gx, p * 8 + 2 + 3, none⟩) (fun _ => rfl) _).setCell (p := ⟨gx, p * 8 + 7, none⟩) (fun _ => rfl) _
            have hgxb : ¬ gb = gx := fun e => HGN.out (by rw [e]; rfl)
            have M6 := Lib.hid (M5.out.upd hu (fun e => HNE.out (by rw [e]; rfl)))
            have B6 := Lib.hid (below_upd B5.out B5.out.size hu (fun k e => by omega))
            have x6 := (hu.block gb (Array.getElem?_eq_some_iff.1 x5.out).1 hgxb).trans x5.out
            have r6 : W6.cell? ⟨gb, 1, none⟩ = some (.int .i64 cl) := (cell_of_row W6 _ 1 _ _ _ x6).trans rfl
            have HH := Lib.hid hh'
            clear hW6 hu x6 f2 f3 f4 f5 f7 g2 g3 g4 g5 g7 hh' e0 e1 e3 e4 e5 e6 lk
            go_wp2_with (at_mapUpdate; refine wpList_put rfl (.tmp 81) (.tmp 83) (.const (.int .i64 0)) rfl w.heap.size i _ rfl M6.out (by omega) cl 0 rfl rfl E2.out.cl.1 E2.out.cl.2 (by omega) (by omega) ?_)
            intro w7 hm7 hg7
            have hu7 : Upd (fun k => k = w.heap.size) W6 w7 := (Upd.refl (fun k => k = w.heap.size) W6).grown hg7 (fun k hk _ => (Option.some.inj hk).symm)
            have O7 := Lib.hid (own_upd O6.out hu7 (fun k hk e => HNE.out (by rw [← e, ← hk])))
            have B7 := Lib.hid (below_upd B6.out B6.out.size hu7 (fun k e => by omega))
            have M7 := Lib.hid (show MapAt w7 w.heap.size (i + 1) (fun z => (((if z = cl then 0 else f z : Nat)) : Int)) by
              have e : (fun z => (((if z = cl then 0 else f z : Nat)) : Int)) = fun z => if z = cl then (0 : Int) else (f z : Int) := by
                funext z
                split
                · simp
                · rfl
              rw [e]
              exact hm7)
            clear hm7 hg7 hu7
            go_wp2_with fail
            go_roundg (L.length - (i + 1))
            case measure => have := HK.out; have := HLT.out; omega
            case rel =>
              refine ⟨i + 1, H.set p h', fun z => if z = cl then 0 else f z, HLT.out, rfl, by go_num, ?_, ?_, ?_, by rw [List.length_set]; omega, ?_, M7.out, HNE.out, B7.out⟩
              · intro h hh
                rcases List.mem_or_eq_of_mem_set hh with hh | hh
                · exact HOK.out h hh
                · rw [hh, HH.out]
                  exact ⟨(HOK.out H[p] (List.getElem_mem hpl)).1, rfl, rfl, rfl, rfl⟩
              · intro z
                show (if z = cl then 0 else f z) ≤ ((H.set p h').map Ho.plain).length
                rw [List.length_map, List.length_set]
                have h := HOP.out z
                simp only [List.length_map] at h
                split <;> omega
              · rw [HSN.out, HST.out, HP.out, Nat.add_sub_cancel, HH.out]
                congr 2
                rw [List.map_set, List.modify_eq_set, List.getElem?_map, List.getElem?_eq_getElem hpl]
                rfl
              · rw [List.length_set]
                exact O7.out
    · have hge : L.length ≤ i := by omega
      have HRF := Lib.hid (show hrun (L.map kc) 0 hstart = .ok (H.map Ho.plain, f) by
        have h := HRUN.out
        rwa [List.take_of_length_le hge] at h)
      obtain ⟨Ax, cx, rfl, _⟩ := own_slice HO.out
      clear hlt
      go_wp2_with fail
      exact bodyPost_ret (v := .tuple #[.slice Ax H.length cx, .int .i64 0, .int .i64 0]) (by simp [results, Try.results34, go_sem]) rfl (.inl ⟨_, _, H, HRF.out, rfl, rfl, HO.out, HB.out⟩)

end Go.Proofs.Ytiefgnmekikckaa
