/-
  Memory: what a call may have turned; rows that are read; append onto a row of one's own from whatever source; bytes and strings.
-/
import Derived.Test.YthlbmjjodjepjaaBase
import Derived.Maps.AppendAt
import Derived.Lib.ConvBytes
import Derived.Laws.CopyOwn
import Derived.Deep.RegionLaw
import Derived.Lib.SlBytesConst
set_option linter.unusedVariables false
set_option linter.unusedSimpArgs false
namespace Go.Proofs.Ythlbmjjodjepjaa
open Go.RowKit

theorem add_plain (g j : Nat) : (⟨g, 0, none⟩ : Addr).add j = ⟨g, j, none⟩ := by unfold Addr.add; split <;> simp_all
theorem add_off (g o j : Nat) : (⟨g, o, none⟩ : Addr).add j = ⟨g, o + j, none⟩ := by unfold Addr.add; split <;> simp_all
theorem add_add (a : Addr) (i j : Nat) : (a.add i).add j = a.add (i + j) := by
  unfold Addr.add
  by_cases h1 : i = 0 <;> by_cases h2 : j = 0 <;> simp [h1, h2, Nat.add_assoc]

/-- Of the old blocks only those in F may have turned. -/
structure Upd (F : Nat → Prop) (w w' : World) : Prop where
  os : w'.os = w.os
  tape : w'.tape = w.tape
  output : w'.output = w.output
  size : w.heap.size ≤ w'.heap.size
  block : ∀ k, k < w.heap.size → ¬ F k → w'.heap[k]? = w.heap[k]?

theorem Upd.refl (F : Nat → Prop) (w : World) : Upd F w w := ⟨rfl, rfl, rfl, Nat.le_refl _, fun _ _ _ => rfl⟩
theorem Upd.mono {F G : Nat → Prop} {w w' : World} (h : Upd F w w') (hFG : ∀ k, k < w.heap.size → F k → G k) : Upd G w w' :=
  ⟨h.os, h.tape, h.output, h.size, fun k hk hn => h.block k hk (fun hf => hn (hFG k hk hf))⟩
/-- What the second step turns is either what the first may have turned, or new. -/
theorem Upd.trans {F G : Nat → Prop} {a b c : World} (h : Upd F a b) (k : Upd G b c) (hG : ∀ i, i < a.heap.size → G i → F i) : Upd F a c :=
  ⟨k.os.trans h.os, k.tape.trans h.tape, k.output.trans h.output, Nat.le_trans h.size k.size,
    fun i hi hn => (k.block i (Nat.lt_of_lt_of_le hi h.size) (fun hg => hn (hG i hi hg))).trans (h.block i hi hn)⟩
theorem Upd.drew {F : Nat → Prop} {a w : World} (h : Upd F a w) : Upd F a w.drew := ⟨h.os, h.tape, h.output, h.size, h.block⟩
theorem Upd.drewN {F : Nat → Prop} {a w : World} (h : Upd F a w) (n : Nat) : Upd F a (w.drewN n) := ⟨h.os, h.tape, h.output, h.size, h.block⟩
theorem Upd.alloc {F : Nat → Prop} {a w : World} (h : Upd F a w) (o : Obj) : Upd F a (w.alloc o) :=
  ⟨h.os, h.tape, h.output, by have := h.size; simp; omega, fun k hk hn => (Below.heap_alloc w o k (Nat.lt_of_lt_of_le hk h.size)).trans (h.block k hk hn)⟩
theorem Upd.setCell {F : Nat → Prop} {a w : World} (h : Upd F a w) {p : Addr} (hp : p.block < a.heap.size → F p.block) (u : Value) : Upd F a (w.setCell p u) :=
  ⟨h.os, h.tape, h.output, by have := h.size; simp [World.setCell]; omega, fun k hk hn => (Below.heap_setCell w p u k (fun e => hn (e ▸ hp (e ▸ hk)))).trans (h.block k hk hn)⟩
theorem Upd.grown {F : Nat → Prop} {a w w' : World} (h : Upd F a w) {row : Option Nat} (hg : w.grownBy w' row) (hr : ∀ k, row = some k → k < a.heap.size → F k) : Upd F a w' :=
  ⟨hg.os.trans h.os, hg.tape.trans h.tape, hg.output.trans h.output, Nat.le_trans h.size hg.size,
    fun k hk hn => (hg.block k (Nat.lt_of_lt_of_le hk h.size) (fun e => hn (hr k e.symm hk))).trans (h.block k hk hn)⟩
theorem Upd.below {F : Nat → Prop} {a w w' : World} (h : Upd F a w) (hb : Below w.heap.size w w') : Upd F a w' :=
  ⟨hb.os.trans h.os, hb.tape.trans h.tape, hb.output.trans h.output, Nat.le_trans h.size hb.size,
    fun k hk hn => (hb.block k (Nat.lt_of_lt_of_le hk h.size)).trans (h.block k hk hn)⟩
theorem Upd.of_below {F : Nat → Prop} {w w' : World} (hb : Below w.heap.size w w') : Upd F w w' := (Upd.refl F w).below hb
theorem Upd.to_below {F : Nat → Prop} {w w' : World} {B : Nat} (h : Upd F w w') (hB : B ≤ w.heap.size) (hF : ∀ k, k < B → ¬ F k) : Below B w w' :=
  ⟨h.os, h.tape, h.output, h.size, fun k hk => h.block k (by omega) (hF k hk)⟩
/-- Behind a Below comes an Upd of blocks from B on. -/
theorem below_upd {F : Nat → Prop} {w0 w w' : World} {B : Nat} (h : Below B w0 w) (hB : B ≤ w.heap.size) (u : Upd F w w') (hF : ∀ k, F k → B ≤ k) : Below B w0 w' :=
  h.trans (u.to_below hB (fun k hk hf => by have := hF k hf; omega))
theorem below_below {B : Nat} {w0 w w' : World} (h : Below B w0 w) (hB : B ≤ w.heap.size) (k : Below w.heap.size w w') : Below B w0 w' :=
  h.trans (k.mono hB)

/-- A slice (its address: A) whose cells read as cs. -/
def RC (w : World) (A : Option Addr) (cs : List Value) : Prop :=
  0 < cs.length → ∃ ad, A = some ad ∧ ∀ j u, cs[j]? = some u → w.cell? (ad.add j) = some u
theorem RC.nil (w : World) (A : Option Addr) : RC w A [] := fun h => absurd h (by simp)
theorem RB.cells {w : World} {A : Option Addr} {l : List UInt8} (h : RB w A l) : RC w A (bv l) := by
  intro h0
  rw [bv_length] at h0
  obtain ⟨ad, e, hc⟩ := h h0
  refine ⟨ad, e, fun j u hj => ?_⟩
  have hl : j < l.length := by
    have := (List.getElem?_eq_some_iff.1 hj).1
    rwa [bv_length] at this
  rw [bv_get l j hl] at hj
  cases hj
  exact hc j hl
theorem RC.bytes {w : World} {A : Option Addr} {l : List UInt8} (h : RC w A (bv l)) : RB w A l := by
  intro h0
  obtain ⟨ad, e, hc⟩ := h (by rw [bv_length]; exact h0)
  exact ⟨ad, e, fun j hj => hc j _ (bv_get l j hj)⟩
theorem RC.step {w w' : World} {A : Option Addr} {cs : List Value} (h : RC w A cs) (hc : ∀ a v, w.cell? a = some v → w'.cell? a = some v) : RC w' A cs := by
  intro h0
  obtain ⟨ad, e, hr⟩ := h h0
  exact ⟨ad, e, fun j u hj => hc _ _ (hr j u hj)⟩
theorem RB_take {w : World} {A : Option Addr} {l : List UInt8} (h : RB w A l) (k : Nat) : RB w A (l.take k) := by
  intro h0
  obtain ⟨ad, e, hc⟩ := h (by simp at h0; omega)
  exact ⟨ad, e, fun j hj => by rw [hc j (by simp at hj; omega)]; simp⟩
theorem cell_below {w w' : World} (hb : Below w.heap.size w w') {a : Addr} {v : Value} (h : w.cell? a = some v) : w'.cell? a = some v :=
  (hb.cell (World.block_lt_of_cell? w a h)).trans h
theorem cell_belowB {B : Nat} {w w' : World} (hb : Below B w w') {a : Addr} (ha : a.block < B) {v : Value} (h : w.cell? a = some v) : w'.cell? a = some v := (hb.cell ha).trans h
theorem RC.below {w w' : World} {A : Option Addr} {cs : List Value} (h : RC w A cs) (hb : Below w.heap.size w w') : RC w' A cs := h.step fun _ _ => cell_below hb
theorem RB.step {w w' : World} {A : Option Addr} {l : List UInt8} (h : RB w A l) (hc : ∀ a v, w.cell? a = some v → w'.cell? a = some v) : RB w' A l := (h.cells.step hc).bytes
theorem RB.below {w w' : World} {A : Option Addr} {l : List UInt8} (h : RB w A l) (hb : Below w.heap.size w w') : RB w' A l := (h.cells.below hb).bytes
theorem RB.nil (w : World) (A : Option Addr) : RB w A [] := fun h => absurd h (by simp)
/-- The slice lies in old memory (below B), or is empty. -/
def InOld (B : Nat) (A : Option Addr) (cs : List Value) : Prop := 0 < cs.length → ∀ ad, A = some ad → ad.block < B
theorem RC.inOld {w : World} {A : Option Addr} {cs : List Value} (h : RC w A cs) : InOld w.heap.size A cs := by
  intro h0 ad e
  obtain ⟨ad', e', hc⟩ := h h0
  rw [e] at e'
  cases e'
  have h2 := hc 0 _ (List.getElem?_eq_getElem h0)
  have h3 := World.block_lt_of_cell? w _ h2
  unfold Addr.add at h3
  simpa using h3
theorem RC.belowB {B : Nat} {w w' : World} {A : Option Addr} {cs : List Value} (h : RC w A cs) (hb : Below B w w') (ho : InOld B A cs) : RC w' A cs := by
  intro h0
  obtain ⟨ad, e, hc⟩ := h h0
  refine ⟨ad, e, fun j u hj => (hb.cell ?_).trans (hc j u hj)⟩
  have := ho h0 ad e
  unfold Addr.add
  split <;> exact this
theorem RC.upd {F : Nat → Prop} {w w' : World} {A : Option Addr} {cs : List Value} (h : RC w A cs) (u : Upd F w w') (ho : 0 < cs.length → ∀ ad, A = some ad → ¬ F ad.block) : RC w' A cs := by
  intro h0
  obtain ⟨ad, e, hc⟩ := h h0
  refine ⟨ad, e, fun j v hj => ?_⟩
  have h1 := hc j v hj
  have hb : (ad.add j).block = ad.block := by unfold Addr.add; split <;> rfl
  have hlt := World.block_lt_of_cell? w _ h1
  exact (World.cell?_of_block (w := w) (u.block _ hlt (by rw [hb]; exact ho h0 ad e))).trans h1

/-- A new block is read. -/
theorem RC_new (W : World) (cs : Array Value) (e : TypeId) : RC (W.alloc (.cells cs e)) (some ⟨W.heap.size, 0, none⟩) cs.toList := by
  intro _
  refine ⟨_, rfl, fun j u hj => ?_⟩
  rw [add_plain, cell_of_row _ _ j cs e (0, 0) (heap_alloc_new W _)]
  simpa using hj
theorem RC_newL (W : World) (l : List Value) (e : TypeId) : RC (W.alloc (.cells l.toArray e)) (some ⟨W.heap.size, 0, none⟩) l := RC_new W l.toArray e
theorem RB_new (W : World) (l : List UInt8) (e : TypeId) : RB (W.alloc (.cells (bv l).toArray e)) (some ⟨W.heap.size, 0, none⟩) l := (RC_newL W (bv l) e).bytes
/-- The like of a block with a mark behind its cells ([]byte of a constant). -/
theorem RC_newM (W : World) (cs : Array Value) (e : TypeId) (fr : Nat × Nat) : RC (W.alloc (.cells cs e fr)) (some ⟨W.heap.size, 0, none⟩) cs.toList := by
  intro _
  refine ⟨_, rfl, fun j u hj => ?_⟩
  rw [add_plain, cell_of_row _ _ j cs e fr (heap_alloc_new W _)]
  simpa using hj
theorem RB_newM (W : World) (l : List UInt8) (e : TypeId) (fr : Nat × Nat) : RB (W.alloc (.cells (bv l).toArray e fr)) (some ⟨W.heap.size, 0, none⟩) l := RC.bytes (by simpa using RC_newM W (bv l).toArray e fr)
/-- The same, the new block's number given. -/
theorem RC_at (W : World) (cs : Array Value) (e : TypeId) (fr : Nat × Nat) (g : Nat) (hg : g = W.heap.size) : RC (W.alloc (.cells cs e fr)) (some ⟨g, 0, none⟩) cs.toList := by
  subst hg; exact RC_newM W cs e fr
theorem RB_at (W : World) (l : List UInt8) (e : TypeId) (fr : Nat × Nat) (g : Nat) (hg : g = W.heap.size) : RB (W.alloc (.cells (bv l).toArray e fr)) (some ⟨g, 0, none⟩) l := by
  subst hg; exact RB_newM W l e fr
/-- What a row of one's own holds is read. -/
theorem own_RC {w : World} {base : Nat} {e : TypeId} {size n : Nat} {A : Option Addr} {m c : Nat} {xs : List Value} (h : w.ownsRow base e size (.slice A m c) n xs) : RC w A xs := by
  intro h0
  rcases h.2 with ⟨h', hn⟩ | ⟨g, cap, cur, h', _⟩
  · rw [hn] at h
    have := h.1
    simp at this
    rw [this] at h0
    simp at h0
  · cases h'
    exact ⟨_, rfl, h.cells (g := g) rfl⟩
theorem own_slice {w : World} {base n : Nat} {e : TypeId} {size : Nat} {v : Value} {xs : List Value} (h : w.ownsRow base e size v n xs) : ∃ A c, v = .slice A n c ∧ n ≤ c := by
  rcases h.2 with ⟨rfl, rfl⟩ | ⟨g, cap, cur, rfl, _, _, hn, _⟩
  · exact ⟨none, 0, rfl, Nat.le_refl _⟩
  · exact ⟨_, cap, rfl, hn⟩
theorem own_form {w : World} {base n : Nat} {e : TypeId} {size : Nat} {v : Value} {xs : List Value} (h : w.ownsRow base e size v n xs) (hn : 0 < n) : ∃ g c, v = .slice (some ⟨g, 0, none⟩) n c ∧ base ≤ g ∧ n ≤ c := by
  rcases h.2 with ⟨rfl, h0⟩ | ⟨g, cap, cur, rfl, hb, _, hn, _⟩
  · omega
  · exact ⟨g, cap, rfl, hb, hn⟩
theorem own_byte {w : World} {base n g c : Nat} {e : TypeId} {l : List UInt8} (h : w.ownsRow base e 1 (.slice (some ⟨g, 0, none⟩) n c) n (bv l)) (k : Nat) (hk : k < l.length) : w.cell? ⟨g, k, none⟩ = some (.int .u8 (un8 l[k])) := by
  have h1 := h.1
  rw [bv_length] at h1
  rw [h.cellAt k (by omega), bv_get l k hk]
  rfl

theorem own_lower {w : World} {base base' n : Nat} {e : TypeId} {size : Nat} {v : Value} {xs : List Value} (h : w.ownsRow base e size v n xs) (hb : base' ≤ base) : w.ownsRow base' e size v n xs := by
  refine ⟨h.1, ?_⟩
  rcases h.2 with h2 | ⟨g, cap, cur, hv, hg, r⟩
  · exact .inl h2
  · exact .inr ⟨g, cap, cur, hv, Nat.le_trans hb hg, r⟩
theorem own_upd {F : Nat → Prop} {w w' : World} {base n : Nat} {e : TypeId} {size : Nat} {v : Value} {xs : List Value} (h : w.ownsRow base e size v n xs) (u : Upd F w w') (hF : ∀ k, v.ownBlock = some k → ¬ F k) : w'.ownsRow base e size v n xs := by
  refine ⟨h.1, ?_⟩
  rcases h.2 with h2 | ⟨g, cap, cur, rfl, hb, hg, r⟩
  · exact .inl h2
  · refine .inr ⟨g, cap, cur, rfl, hb, ?_, r⟩
    rw [u.block g (Array.getElem?_eq_some_iff.1 hg).1 (hF g rfl)]
    exact hg
theorem own_below {w w' : World} {base n : Nat} {e : TypeId} {size : Nat} {v : Value} {xs : List Value} (h : w.ownsRow base e size v n xs) (hb : Below w.heap.size w w') : w'.ownsRow base e size v n xs :=
  own_upd h (Upd.of_below (F := fun _ => False) hb) (fun _ _ => id)
/-- 's[:k]' of a row of one's own. -/
theorem own_take {w : World} {base n : Nat} {e : TypeId} {size : Nat} {A : Option Addr} {c : Nat} {xs : List Value} (h : w.ownsRow base e size (.slice A n c) n xs) (k : Nat) (hk : k ≤ n) : w.ownsRow base e size (.slice A k c) k (xs.take (k * size)) := by
  refine ⟨by rw [List.length_take, h.1]; exact Nat.min_eq_left (Nat.mul_le_mul_right _ hk), ?_⟩
  rcases h.2 with ⟨h', hn⟩ | ⟨g, cap, cur, h', hb, hg, hnc, hcm, hcs, ht⟩
  · cases h'
    exact .inl ⟨by rw [show k = 0 by omega], by omega⟩
  · cases h'
    refine .inr ⟨g, _, cur, rfl, hb, hg, by omega, hcm, hcs, ?_⟩
    rw [← ht, List.take_take, Nat.min_eq_left (Nat.mul_le_mul_right _ hk)]

section
variable {P : Program}

/-- 'append(v, src...)': v a row of one's own, src whatever reads as news (nil, too). -/
theorem run_append_any (w : World) (base : Nat) (t ty e : TypeId) (z : Value) (size bytes : Nat) (ht : P.underlying t = some (.slice e))
    (hinfo : (P.info? e).map (fun i => (i.zero, i.size, i.bytes)) = some (some z, size, bytes)) (hzs : z.cells.size = size) (hsz : 0 < size) (hb0 : 0 < bytes)
    (v : Value) (n : Nat) (xs : List Value) (hown : w.ownsRow base e size v n xs)
    (A : Option Addr) (m c : Nat) (news : List Value) (hl : news.length = m * size) (hr : RC w A news) (h1 : ∀ u ∈ news, u.oneCell' = true)
    (hbytes : (n + m) * bytes ≤ 140737488355328) (hbase : base ≤ w.heap.size) :
    ∃ v' w', (Builtin.append_ #[t, t] ty #[v, .slice A m c]).run P w = .ok v' w' ∧ w'.ownsRow base e size v' (n + m) (xs ++ news) ∧ w.grownBy w' v.ownBlock ∧ (v'.ownBlock = v.ownBlock ∨ v'.ownBlock = some w.heap.size) := by
  obtain ⟨i0, hi, hzz⟩ := Option.map_eq_some_iff.1 hinfo
  simp only [Prod.mk.injEq] at hzz
  obtain ⟨hz0, hz1, hz2⟩ := hzz
  have hlen : n + m ≤ 140737488355328 := Nat.le_trans (Nat.le_mul_of_pos_right _ hb0) hbytes
  by_cases hm : m = 0
  · subst hm
    obtain rfl : news = [] := List.eq_nil_of_length_eq_zero (by simpa using hl)
    rcases A with _ | ad
    · refine ⟨v, w, ?_, by simpa using hown, World.grownBy.refl w _, .inl rfl⟩
      rcases hown.2 with ⟨rfl, hn⟩ | ⟨g, cap, cur, rfl, _, _, hnc, _⟩
      · simp [Builtin.append_, run_underlying ht, sizeOf, typeInfo, hi, Builtin.lenOf, Builtin.firstCells]
      · simp [Builtin.append_, run_underlying ht, sizeOf, typeInfo, hi, Builtin.lenOf, Builtin.firstCells, hnc, storeCells]
    · obtain ⟨v1, w1, hrun, h2, h3, _, h5⟩ := run_append_own_at (P := P) w base t ty e i0 z size bytes ht hi hz0 hz1 hz2 hzs hsz v n xs hown ad 0 c [] (by simp) (fun j u h => by simp at h) (by simp) (by simp only [maxLen]; omega) hbytes hbase
      exact ⟨v1, w1, hrun, h2, h3, h5⟩
  · have hpos : 0 < news.length := by rw [hl]; exact Nat.mul_pos (by omega) hsz
    obtain ⟨ad, rfl, hc⟩ := hr hpos
    obtain ⟨v1, w1, hrun, h2, h3, _, h5⟩ := run_append_own_at (P := P) w base t ty e i0 z size bytes ht hi hz0 hz1 hz2 hzs hsz v n xs hown ad m c news hl hc h1 (by simp only [maxLen]; omega) hbytes hbase
    exact ⟨v1, w1, hrun, h2, h3, h5⟩

/-- The same at the operation, for the walk. -/
theorem append_any {ops : Array Oper} {rest : List Oper} {o : Oper} {a : Act} {Q : Exit → Act → World → Prop} {w : World} (hgd : o.guard = none) (s x : Operand) (t : TypeId)
    (ho : o.op = .call { callee := .builtin .append, args := #[s, x], argTypes := #[t, t] })
    (base : Nat) (e : TypeId) (z : Value) (size bytes : Nat) (ht : P.underlying t = some (.slice e))
    (hinfo : (P.info? e).map (fun i => (i.zero, i.size, i.bytes)) = some (some z, size, bytes)) (hzs : z.cells.size = size) (hsz : 0 < size) (hb0 : 0 < bytes)
    (v : Value) (n : Nat) (xs : List Value) (hs : a.eval s = v) (hown : w.ownsRow base e size v n xs)
    (A : Option Addr) (m c : Nat) (news : List Value) (hx : a.eval x = .slice A m c) (hl : news.length = m * size) (hr : RC w A news) (h1 : ∀ u ∈ news, u.oneCell' = true)
    (hbytes : (n + m) * bytes ≤ 140737488355328) (hbase : base ≤ w.heap.size)
    (h : ∀ v' w', w'.ownsRow base e size v' (n + m) (xs ++ news) → w.grownBy w' v.ownBlock → (v'.ownBlock = v.ownBlock ∨ v'.ownBlock = some w.heap.size) → wpList P ops Q rest (a.put o.dst v') w') :
    wpList P ops Q (o :: rest) a w := by
  refine wpList_plain hgd fun K hK => ?_
  obtain ⟨v', w', hrun, h2, h3, h5⟩ := run_append_any (P := P) w base t o.type e z size bytes ht hinfo hzs hsz hb0 v n xs hown A m c news hl hr h1 hbytes hbase
  unfold Oper.wp execOp
  simp only [ho, resolve, invoke, builtin, Sem.run_bind, Sem.run_pure, Result.andThen_ok, List.map_toArray, List.map_cons, List.map_nil, hs, hx, hrun]
  exact hK _ _ (h v' w' h2 h3 h5)

theorem bv_one (l : List UInt8) : ∀ u ∈ bv l, u.oneCell' = true := by
  intro u hu
  simp only [bv, List.mem_map] at hu
  obtain ⟨q, _, rfl⟩ := hu
  rfl

/-- 'append(v, b...)' of bytes. -/
theorem append_bytes {ops : Array Oper} {rest : List Oper} {o : Oper} {a : Act} {Q : Exit → Act → World → Prop} {w : World} (hgd : o.guard = none) (s x : Operand) (t : TypeId)
    (ho : o.op = .call { callee := .builtin .append, args := #[s, x], argTypes := #[t, t] })
    (base : Nat) (e : TypeId) (ht : P.underlying t = some (.slice e))
    (hinfo : (P.info? e).map (fun i => (i.zero, i.size, i.bytes)) = some (some (.int .u8 0), 1, 1))
    (v : Value) (xs : List UInt8) (hs : a.eval s = v) (hown : w.ownsRow base e 1 v xs.length (bv xs))
    (A : Option Addr) (m c : Nat) (ys : List UInt8) (hx : a.eval x = .slice A m c) (hl : ys.length = m) (hr : RB w A ys)
    (hbytes : xs.length + m ≤ 140737488355328) (hbase : base ≤ w.heap.size)
    (h : ∀ v' w', w'.ownsRow base e 1 v' (xs.length + m) (bv (xs ++ ys)) → w.grownBy w' v.ownBlock → (v'.ownBlock = v.ownBlock ∨ v'.ownBlock = some w.heap.size) → wpList P ops Q rest (a.put o.dst v') w') :
    wpList P ops Q (o :: rest) a w :=
  append_any hgd s x t ho base e (.int .u8 0) 1 1 ht hinfo rfl (by omega) (by omega) v xs.length (bv xs) hs hown A m c (bv ys) hx (by rw [bv_length]; omega) hr.cells (bv_one ys) (by omega) hbase
    (fun v' w' h1 h2 h3 => h v' w' (by rw [bv_append]; exact h1) h2 h3)

/-- The same as one step of a region that draws its order. -/
theorem step_append_any {ops : Array Oper} {o : Oper} {a : Act} {K : Act → World → Prop} {Q : Exit → Act → World → Prop} {E : Prop} {w : World} (hgd : o.guard = none) (s x : Operand) (t : TypeId)
    (ho : o.op = .call { callee := .builtin .append, args := #[s, x], argTypes := #[t, t] })
    (base : Nat) (e : TypeId) (z : Value) (size bytes : Nat) (ht : P.underlying t = some (.slice e))
    (hinfo : (P.info? e).map (fun i => (i.zero, i.size, i.bytes)) = some (some z, size, bytes)) (hzs : z.cells.size = size) (hsz : 0 < size) (hb0 : 0 < bytes)
    (v : Value) (n : Nat) (xs : List Value) (hs : a.eval s = v) (hown : w.ownsRow base e size v n xs)
    (A : Option Addr) (m c : Nat) (news : List Value) (hx : a.eval x = .slice A m c) (hl : news.length = m * size) (hr : RC w A news) (h1 : ∀ u ∈ news, u.oneCell' = true)
    (hbytes : (n + m) * bytes ≤ 140737488355328) (hbase : base ≤ w.heap.size)
    (h : ∀ v' w', w'.ownsRow base e size v' (n + m) (xs ++ news) → w.grownBy w' v.ownBlock → (v'.ownBlock = v.ownBlock ∨ v'.ownBlock = some w.heap.size) → K (a.put o.dst v') w') :
    if Region.wanted o (yielded ops a.tmps) = true then Oper.wp P o a w K Q else E := by
  have hw : Region.wanted o (yielded ops a.tmps) = true := by simp [Region.wanted, hgd]
  rw [if_pos hw]
  obtain ⟨v', w', hrun, h2, h3, h5⟩ := run_append_any (P := P) w base t o.type e z size bytes ht hinfo hzs hsz hb0 v n xs hown A m c news hl hr h1 hbytes hbase
  unfold Oper.wp execOp
  simp only [ho, resolve, invoke, builtin, Sem.run_bind, Sem.run_pure, Result.andThen_ok, List.map_toArray, List.map_cons, List.map_nil, hs, hx, hrun]
  exact h v' w' h2 h3 h5

/-- 'string(b)'. -/
theorem run_string_RB (w : World) (src dst e : TypeId) (hs : P.underlying src = some (.slice e)) (he : P.underlying e = some (.int .u8)) (hd : P.underlying dst = some .string)
    (A : Option Addr) (n c : Nat) (l : List UInt8) (hl : l.length = n) (hr : RB w A l) : (convert src dst (.slice A n c)).run P w = .ok (.string ⟨l.toArray⟩) w := by
  rcases A with _ | ⟨b, off, sp⟩
  · have h0 : l = [] := by
      rcases l with _ | ⟨x, l⟩
      · rfl
      · obtain ⟨ad, h, _⟩ := hr (by simp)
        cases h
    subst h0
    exact run_convert_bytes_nil w src e hs he n c dst hd
  · by_cases h0 : l.length = 0
    · have h0' : l = [] := List.eq_nil_of_length_eq_zero h0
      subst h0'
      obtain rfl : n = 0 := by simpa using hl.symm
      rw [run_convert_bytes_string w src dst e _ 0 c hs he hd]
      have hl : (loadCells ⟨b, off, sp⟩ 0).run P w = .ok ([].map (Value.int .u8)).toArray w := by simp [loadCells, loadCellsFrom]
      rw [run_bytesToString w _ 0 c [] hl]
      rfl
    · obtain ⟨ad, e1, hc⟩ := hr (by omega)
      cases e1
      have hsp : sp = none := by
        have := hc 0 (by omega)
        simp only [Addr.add, if_true] at this
        unfold World.cell? at this
        cases sp with
        | none => rfl
        | some s => simp at this; split at this <;> simp at this
      subst hsp
      have hrun := run_convert_bytes_arg (P := P) w src e hs he b off n c (l.map un8) (by simpa using hl) (fun i hi => by
        have := hc i (by omega)
        rw [add_off] at this
        rw [this]
        simp [List.getD_eq_getElem?_getD, List.getElem?_eq_getElem (show i < l.length by omega)]) dst hd
      rw [hrun]
      have e2 : strOfNums (l.map un8) = ⟨l.toArray⟩ := by
        unfold strOfNums
        congr 1
        congr 1
        rw [List.map_map]
        conv => rhs; rw [← List.map_id l]
        apply List.map_congr_left
        intro x _
        simp [un8]
      rw [e2]

theorem data_length (s : ByteArray) : s.data.toList.length = s.size := by rw [Array.length_toList]; rfl

/-- '[]byte(s)'. -/
theorem bytes_RB (W : World) (e : TypeId) (s : ByteArray) : RB (Lib.bytesWorld W e s) (some ⟨W.heap.size, 0, none⟩) s.data.toList := by
  intro h0
  refine ⟨_, rfl, fun j hj => ?_⟩
  rw [add_plain, Lib.bytesWorld_cell W e s j (by rw [← data_length]; exact hj)]
  have hj' : j < s.data.size := by simpa using hj
  simp [un8, List.getD_eq_getElem?_getD, Array.getElem?_eq_getElem hj']
theorem bytes_below {B : Nat} {w W : World} (h : Below B w W) (hB : B ≤ W.heap.size) (e : TypeId) (s : ByteArray) : Below B w (Lib.bytesWorld W e s) :=
  h.trans ⟨rfl, rfl, rfl, by rw [Lib.bytesWorld_size]; omega, fun i hi => Lib.bytesWorld_at_old W e s i (by omega)⟩
end

/-- An argument's row of bytes (the shape that the row's proof opens). -/
theorem arg_RB {w : World} {a : Option Addr} {len cap : Nat} {zs : List Int}
    (h : (a = none ∧ len = 0 ∧ cap = 0 ∧ zs = []) ∨
      ∃ x, a = some x ∧ len ≤ cap ∧ cap ≤ maxLen ∧ zs.length = cap ∧ (∀ i, i < zs.length → w.cell? (x.add i) = some (.int .u8 (zs.getD i 0))) ∧ ∀ n ∈ zs, (Lit.int .u8 n).wf = true) :
    ∃ l : List UInt8, l.length = len ∧ len ≤ cap ∧ cap ≤ maxLen ∧ RB w a l := by
  rcases h with ⟨rfl, rfl, rfl, rfl⟩ | ⟨x, rfl, hl, hm, hz, hc, hw⟩
  · exact ⟨[], rfl, Nat.le_refl _, by simp [maxLen], RB.nil _ _⟩
  · refine ⟨(zs.take len).map fun n => UInt8.ofNat n.toNat, by simp; omega, hl, hm, fun _ => ⟨x, rfl, fun j hj => ?_⟩⟩
    have hj' : j < zs.length := by simp at hj; omega
    rw [hc j hj']
    have hb := hw _ (List.getElem_mem hj')
    simp [Lit.wf, IntKind.min, IntKind.max, IntKind.signed, IntKind.bits] at hb
    simp [List.getD_eq_getElem?_getD, List.getElem?_eq_getElem hj', un8]
    omega

theorem wf64 {n : Int} (h : (Lit.int .i64 n).wf = true) : -9223372036854775808 ≤ n ∧ n ≤ 9223372036854775807 := by
  simp [Lit.wf, IntKind.min, IntKind.max, IntKind.signed, IntKind.bits] at h
  omega

theorem info8 : (Try.prog.info? 5).map (fun i => (i.zero, i.size, i.bytes)) = some (some (.int .u8 0), 1, 1) := by kernel_rfl

end Go.Proofs.Ythlbmjjodjepjaa
