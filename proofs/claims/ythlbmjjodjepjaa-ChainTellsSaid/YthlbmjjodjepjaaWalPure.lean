/-
  Frames of records as plain functions: how they are made, and scanned.
-/
import Derived.Test.YthlbmjjodjepjaaSumPure
set_option linter.unusedVariables false
set_option linter.unusedSimpArgs false
namespace Go.Proofs.Ythlbmjjodjepjaa

/-- Four bytes of a number, the highest first. -/
def be4n (n : Nat) : List UInt8 := [UInt8.ofNat (n / 16777216), UInt8.ofNat (n / 65536), UInt8.ofNat (n / 256), UInt8.ofNat n]
theorem be4n_length (n : Nat) : (be4n n).length = 4 := rfl
/-- The number of the first four bytes. -/
def four : List UInt8 → Nat
  | a :: b :: c :: d :: _ => ((a.toNat * 256 + b.toNat) * 256 + c.toNat) * 256 + d.toNat
  | _ => 0
theorem four_be4 (n : Nat) (h : n < 4294967296) (t : List UInt8) : four (be4n n ++ t) = n := by
  simp only [be4n, four, List.cons_append, UInt8.toNat_ofNat']
  omega
theorem four_lt (l : List UInt8) : four l < 4294967296 := by
  unfold four
  split
  · rename_i a b c d _
    have := a.toNat_lt; have := b.toNat_lt; have := c.toNat_lt; have := d.toNat_lt
    omega
  · omega
theorem four_take (l : List UInt8) (k : Nat) (h : 4 ≤ k) : four (l.take k) = four l := by
  obtain ⟨k, rfl⟩ : ∃ m, k = m + 4 := ⟨k - 4, by omega⟩
  rcases l with _ | ⟨a, _ | ⟨b, _ | ⟨c, _ | ⟨d, l⟩⟩⟩⟩ <;> simp [four]

def kindOf (first : Bool) : UInt8 := if first then 1 else 0
/-- A record as bytes. -/
def frameOf (first : Bool) (rec : List UInt8) : List UInt8 := be4n rec.length ++ (be4n (crcOf (kindOf first :: rec)).toNat ++ kindOf first :: rec)
theorem frameOf_length (f : Bool) (rec : List UInt8) : (frameOf f rec).length = 9 + rec.length := by
  simp [frameOf, be4n_length]; omega

/-- The frame with which bytes begin. -/
def bodyOf (b : List UInt8) : List UInt8 := (b.drop 8).take (1 + four b)
def oneOf (b : List UInt8) : Option (Bool × List UInt8) :=
  if b.length < 9 then none
  else if 4000 < four b ∨ b.length - 9 < four b then none
  else if 1 < ((bodyOf b).headD 0).toNat ∨ (crcOf (bodyOf b)).toNat ≠ four (b.drop 4) then none
  else some (decide ((bodyOf b).headD 0 = 1), (bodyOf b).tail)

theorem oneOf_length {b : List UInt8} {f : Bool} {rec : List UInt8} (h : oneOf b = some (f, rec)) : 9 + rec.length ≤ b.length ∧ rec.length = four b ∧ rec.length ≤ 4000 := by
  unfold oneOf at h
  split at h
  · cases h
  · split at h
    · cases h
    · split at h
      · cases h
      · cases h
        have : (bodyOf b).tail.length = four b := by
          simp [bodyOf]; omega
        omega

theorem bodyOf_frame (f : Bool) (rec t : List UInt8) (h : rec.length ≤ 4000) : bodyOf (frameOf f rec ++ t) = kindOf f :: rec := by
  have h4 : four (frameOf f rec ++ t) = rec.length := by
    unfold frameOf
    rw [List.append_assoc]
    exact four_be4 _ (by omega) _
  unfold bodyOf
  rw [h4]
  simp [frameOf, be4n, Nat.add_comm 1]

theorem oneOf_frame (f : Bool) (rec t : List UInt8) (h : rec.length ≤ 4000) : oneOf (frameOf f rec ++ t) = some (f, rec) := by
  have h4 : four (frameOf f rec ++ t) = rec.length := by
    unfold frameOf
    rw [List.append_assoc]
    exact four_be4 _ (by omega) _
  have h8 : four ((frameOf f rec ++ t).drop 4) = (crcOf (kindOf f :: rec)).toNat := by
    unfold frameOf
    rw [show (be4n rec.length ++ (be4n (crcOf (kindOf f :: rec)).toNat ++ kindOf f :: rec) ++ t).drop 4 = be4n (crcOf (kindOf f :: rec)).toNat ++ (kindOf f :: rec ++ t) by simp [be4n]]
    exact four_be4 _ (crcOf _).toNat_lt _
  unfold oneOf
  rw [bodyOf_frame f rec t h, h4, h8, List.length_append, frameOf_length]
  rw [if_neg (by omega), if_neg (by omega)]
  cases f
  · rw [if_neg (by simp [kindOf])]
    simp [kindOf]
  · rw [if_neg (by simp [kindOf])]
    simp [kindOf]

/-- A frame that is cut off is none. -/
theorem oneOf_torn (f : Bool) (rec : List UInt8) (h : rec.length ≤ 4000) (k : Nat) (hk : k < 9 + rec.length) : oneOf ((frameOf f rec).take k) = none := by
  unfold oneOf
  have hl : ((frameOf f rec).take k).length = k := by rw [List.length_take, frameOf_length]; omega
  rw [hl]
  by_cases h9 : k < 9
  · rw [if_pos h9]
  · rw [if_neg h9, if_pos]
    right
    rw [four_take _ _ (by omega)]
    have h4 : four (frameOf f rec) = rec.length := by
      unfold frameOf
      exact four_be4 _ (by omega) _
    omega
theorem oneOf_short {b : List UInt8} (h : b.length < 9) : oneOf b = none := by unfold oneOf; rw [if_pos h]

/-- Scanning, by fuel: what is left, the records so far, how many bytes they have. -/
def scanGo : Nat → List UInt8 → List (List UInt8) → Nat → List (List UInt8) × Nat
  | 0, _, out, at_ => (out, at_)
  | f + 1, b, out, at_ =>
    match oneOf b with
    | none => (out, at_)
    | some (first, rec) => scanGo f (b.drop (9 + rec.length)) ((if first then [] else out) ++ [rec]) (at_ + (9 + rec.length))
def scanOf (b : List UInt8) : List (List UInt8) × Nat := scanGo (b.length + 1) b [] 0

/-- Enough fuel is enough. -/
theorem scanGo_fuel : ∀ (f g : Nat) (b : List UInt8) (out : List (List UInt8)) (n : Nat), b.length < f → b.length < g → scanGo f b out n = scanGo g b out n
  | 0, _, _, _, _, h, _ => absurd h (by omega)
  | _, 0, _, _, _, _, h => absurd h (by omega)
  | f + 1, g + 1, b, out, n, hf, hg => by
    unfold scanGo
    cases h : oneOf b with
    | none => rfl
    | some p =>
      obtain ⟨first, rec⟩ := p
      have := oneOf_length h
      exact scanGo_fuel f g _ _ _ (by rw [List.length_drop]; omega) (by rw [List.length_drop]; omega)

/-- What records have done behind others. -/
def applyOne (out : List (List UInt8)) (x : Bool × List UInt8) : List (List UInt8) := (if x.1 then [] else out) ++ [x.2]
def framesOf (l : List (Bool × List UInt8)) : List UInt8 := l.flatMap fun x => frameOf x.1 x.2

theorem framesOf_snoc (l : List (Bool × List UInt8)) (x : Bool × List UInt8) : framesOf (l ++ [x]) = framesOf l ++ frameOf x.1 x.2 := by simp [framesOf]
theorem framesOf_cons (l : List (Bool × List UInt8)) (x : Bool × List UInt8) : framesOf (x :: l) = frameOf x.1 x.2 ++ framesOf l := by simp [framesOf]

theorem scanGo_frames : ∀ (l : List (Bool × List UInt8)) (t : List UInt8) (f : Nat) (out : List (List UInt8)) (n : Nat), (∀ x ∈ l, x.2.length ≤ 4000) → oneOf t = none → (framesOf l ++ t).length < f →
    scanGo f (framesOf l ++ t) out n = (l.foldl applyOne out, n + (framesOf l).length)
  | [], t, f, out, n, _, ht, hf => by
    obtain ⟨g, rfl⟩ : ∃ g, f = g + 1 := ⟨f - 1, by omega⟩
    simp only [framesOf, List.flatMap_nil, List.nil_append, List.foldl_nil, List.length_nil, Nat.add_zero]
    unfold scanGo
    rw [ht]
  | x :: l, t, f, out, n, hx, ht, hf => by
    obtain ⟨g, rfl⟩ : ∃ g, f = g + 1 := ⟨f - 1, by omega⟩
    have hx0 := hx x (by simp)
    rw [framesOf_cons, List.append_assoc] at hf ⊢
    unfold scanGo
    rw [oneOf_frame x.1 x.2 _ hx0]
    show scanGo g ((frameOf x.1 x.2 ++ (framesOf l ++ t)).drop (9 + x.2.length)) ((if x.1 then [] else out) ++ [x.2]) _ = _
    rw [show 9 + x.2.length = (frameOf x.1 x.2).length from (frameOf_length _ _).symm, List.drop_left]
    rw [scanGo_frames l t g _ _ (fun y hy => hx y (by simp [hy])) ht (by rw [List.length_append, frameOf_length] at hf; omega)]
    simp [applyOne, Nat.add_assoc]

/-- Frames, and behind them what begins with none. -/
theorem scanOf_frames (l : List (Bool × List UInt8)) (t : List UInt8) (hx : ∀ x ∈ l, x.2.length ≤ 4000) (ht : oneOf t = none) :
    scanOf (framesOf l ++ t) = (l.foldl applyOne [], (framesOf l).length) := by
  unfold scanOf
  rw [scanGo_frames l t _ [] 0 hx ht (by omega)]
  simp

theorem fold_plain : ∀ (l out : List (List UInt8)), (l.map fun x => (false, x)).foldl applyOne out = out ++ l
  | [], out => by simp
  | x :: l, out => by simp [applyOne, fold_plain l]

/-- Frames that are cut off: the whole ones, and a torn one. -/
theorem frames_cut : ∀ (l : List (Bool × List UInt8)) (k : Nat), (∀ x ∈ l, x.2.length ≤ 4000) → k ≤ (framesOf l).length →
    ∃ m t, m ≤ l.length ∧ (framesOf l).take k = framesOf (l.take m) ++ t ∧ oneOf t = none ∧ (framesOf (l.take m)).length ≤ k ∧ (∀ m', m < m' → m' ≤ l.length → k < (framesOf (l.take m')).length)
  | [], k, _, hk => ⟨0, [], Nat.le_refl _, by simp [framesOf], by rfl, by simp [framesOf], fun m' h h' => absurd h' (by simp; omega)⟩
  | x :: l, k, hx, hk => by
    rw [framesOf_cons] at hk ⊢
    by_cases hlt : k < 9 + x.2.length
    · refine ⟨0, (frameOf x.1 x.2).take k, Nat.zero_le _, ?_, oneOf_torn _ _ (hx x (by simp)) _ hlt, by simp [framesOf], fun m' h h' => ?_⟩
      · rw [List.take_append_of_le_length (by rw [frameOf_length]; omega)]
        simp [framesOf]
      · obtain ⟨m', rfl⟩ : ∃ j, m' = j + 1 := ⟨m' - 1, by omega⟩
        rw [List.take_succ_cons, framesOf_cons, List.length_append, frameOf_length]
        omega
    · obtain ⟨m, t, h1, h2, h3, h4, h5⟩ := frames_cut l (k - (9 + x.2.length)) (fun y hy => hx y (by simp [hy])) (by rw [List.length_append, frameOf_length] at hk; omega)
      refine ⟨m + 1, t, by simp; omega, ?_, h3, ?_, fun m' h h' => ?_⟩
      · rw [List.take_append, List.take_of_length_le (by rw [frameOf_length]; omega), frameOf_length, h2, List.take_succ_cons, framesOf_cons, List.append_assoc]
      · rw [List.take_succ_cons, framesOf_cons, List.length_append, frameOf_length]
        omega
      · obtain ⟨m', rfl⟩ : ∃ j, m' = j + 1 := ⟨m' - 1, by omega⟩
        have := h5 m' (by omega) (by simp at h'; omega)
        rw [List.take_succ_cons, framesOf_cons, List.length_append, frameOf_length]
        omega

theorem scanGo_le : ∀ (f : Nat) (b : List UInt8) (out : List (List UInt8)) (n : Nat), (scanGo f b out n).2 ≤ n + b.length
  | 0, b, out, n => by simp [scanGo]
  | f + 1, b, out, n => by
    unfold scanGo
    cases h : oneOf b with
    | none => simp
    | some p =>
      obtain ⟨x, r⟩ := p
      have h1 := oneOf_length h
      have h2 := scanGo_le f (b.drop (9 + r.length)) ((if x then [] else out) ++ [r]) (n + (9 + r.length))
      rw [List.length_drop] at h2
      simp only
      omega
theorem scanOf_le (b : List UInt8) : (scanOf b).2 ≤ b.length := by
  have := scanGo_le (b.length + 1) b [] 0
  simpa [scanOf] using this
theorem scanOf_all (l : List (Bool × List UInt8)) (hx : ∀ x ∈ l, x.2.length ≤ 4000) : scanOf (framesOf l) = (l.foldl applyOne [], (framesOf l).length) := by
  have := scanOf_frames l [] hx (by rfl)
  simpa using this

end Go.Proofs.Ythlbmjjodjepjaa
