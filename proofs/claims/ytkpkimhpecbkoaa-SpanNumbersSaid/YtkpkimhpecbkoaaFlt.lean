/-
  Whole numbers as floats of 64 bits: what they are read as, their sums, differences, order, cuts.
-/
import Derived.Laws.FloatArith
set_option linter.unusedVariables false
set_option linter.unusedSimpArgs false
namespace Go.Proofs.Ytkpkimhpecbkoaa

/-- The bits of a whole number. -/
def fl (n : Int) : Nat := FloatKind.f64.nearest n

theorem log2_lt53 {m : Nat} (h0 : m ≠ 0) (h : m < 2 ^ 53) : m.log2 < 53 := (Nat.log2_lt h0).2 h
theorem log2_bounds {m : Nat} (h0 : m ≠ 0) : 2 ^ m.log2 ≤ m ∧ m < 2 ^ (m.log2 + 1) := ⟨Nat.log2_self_le h0, Nat.lt_log2_self⟩

/-- The rung of a whole number. -/
def rung (m : Nat) : Nat := (m.log2 + 1022) * 2 ^ 52 + m * 2 ^ (52 - m.log2)
theorem scaled_bounds {m : Nat} (h0 : m ≠ 0) (h : m < 2 ^ 53) : 2 ^ 52 ≤ m * 2 ^ (52 - m.log2) ∧ m * 2 ^ (52 - m.log2) < 2 ^ 53 := by
  have hl := log2_lt53 h0 h
  obtain ⟨h1, h2⟩ := log2_bounds h0
  constructor
  · calc 2 ^ 52 = 2 ^ m.log2 * 2 ^ (52 - m.log2) := by rw [← Nat.pow_add]; congr 1; omega
      _ ≤ m * 2 ^ (52 - m.log2) := Nat.mul_le_mul_right _ h1
  · calc m * 2 ^ (52 - m.log2) < 2 ^ (m.log2 + 1) * 2 ^ (52 - m.log2) := Nat.mul_lt_mul_of_pos_right h2 (Nat.two_pow_pos _)
      _ = 2 ^ 53 := by rw [← Nat.pow_add]; congr 1; omega

theorem log2_shift {m k : Nat} (h0 : m ≠ 0) : (m * 2 ^ k).log2 = m.log2 + k := by
  have hm : m * 2 ^ k ≠ 0 := Nat.mul_ne_zero h0 (Nat.ne_of_gt (Nat.two_pow_pos _))
  obtain ⟨h1, h2⟩ := log2_bounds h0
  have a1 : 2 ^ (m.log2 + k) ≤ m * 2 ^ k := by rw [Nat.pow_add]; exact Nat.mul_le_mul_right _ h1
  have a2 : m * 2 ^ k < 2 ^ (m.log2 + k + 1) := by
    rw [show m.log2 + k + 1 = (m.log2 + 1) + k by omega, Nat.pow_add]
    exact Nat.mul_lt_mul_of_pos_right h2 (Nat.two_pow_pos _)
  have b1 := (Nat.le_log2 hm).2 a1
  have b2 := (Nat.log2_lt hm).2 a2
  omega

/-- A cut of what is whole. -/
theorem cut_whole (way : Ieee.Toward) (neg : Bool) (m d : Nat) : way.cut neg (m * 2 ^ d) d = m := by
  unfold Ieee.Toward.cut
  by_cases h0 : m = 0
  · subst h0
    have hg : ∀ x : Nat, 0 < 1 <<< x := fun x => by rw [Nat.one_shiftLeft]; exact Nat.two_pow_pos _
    cases way <;> simp
  · have hl : min d ((m * 2 ^ d).log2 + 2) = d := by rw [log2_shift h0]; omega
    simp only [hl, Nat.one_shiftLeft]
    rw [Nat.mul_div_cancel _ (Nat.two_pow_pos _), Nat.mul_mod_left]
    have h2 := Nat.two_pow_pos d
    have e : (decide (2 ^ d < 0)) = false := by simp
    have e2 : ((2 ^ d : Nat) == 0) = false := by simp
    cases way <;> simp

theorem leastPlace : Ieee.double.leastPlace = -1074 := by decide
theorem binade : Ieee.double.binade = 2 ^ 52 := rfl
theorem infRung : Ieee.double.infRung = 2047 * 2 ^ 52 := by decide
theorem signWeight : Ieee.double.signWeight = 2 ^ 63 := rfl

theorem cut_any (way : Ieee.Toward) (neg : Bool) (m d e : Nat) (h : d ≤ e) : way.cut neg (m * 2 ^ e) d = m * 2 ^ (e - d) := by
  have : m * 2 ^ e = (m * 2 ^ (e - d)) * 2 ^ d := by rw [Nat.mul_assoc, ← Nat.pow_add]; congr 2; omega
  rw [this, cut_whole]

theorem rung_lt {m : Nat} (h0 : m ≠ 0) (h : m < 2 ^ 53) : rung m < 2047 * 2 ^ 52 := by
  have h1 := log2_lt53 h0 h
  have h2 := (scaled_bounds h0 h).2
  unfold rung
  generalize m * 2 ^ (52 - m.log2) = x at *
  omega

/-- The nearest word to a whole number, however it is written. -/
theorem nearest_whole (neg : Bool) {m : Nat} (k : Nat) (h0 : m ≠ 0) (h : m < 2 ^ 53) : Ieee.double.nearest neg (m * 2 ^ k) (-(k : Int)) = Ieee.double.word neg (rung m) := by
  have hl := log2_lt53 h0 h
  have hm : m * 2 ^ k ≠ 0 := Nat.mul_ne_zero h0 (Nat.ne_of_gt (Nat.two_pow_pos _))
  unfold Ieee.Format.nearest
  rw [if_neg hm]
  simp only [leastPlace, log2_shift h0]
  have e1 : max (-(k : Int) + ((m.log2 + k : Nat) : Int) - (Ieee.double.fractionBits : Nat)) (-1074) = (m.log2 : Int) - 52 := by
    show max (-(k : Int) + ((m.log2 + k : Nat) : Int) - ((52 : Nat) : Int)) (-1074) = _
    omega
  simp only [e1]
  have e2 : ((m.log2 : Int) - 52 - -1074).toNat = m.log2 + 1022 := by omega
  rw [e2, binade, infRung]
  have e3 : Ieee.Toward.even.cut neg ((m * 2 ^ k) <<< (-(k : Int) - ((m.log2 : Int) - 52)).toNat) (((m.log2 : Int) - 52) - -(k : Int)).toNat = m * 2 ^ (52 - m.log2) := by
    rw [Nat.shiftLeft_eq, Nat.mul_assoc, ← Nat.pow_add, cut_any _ _ _ _ _ (by omega)]
    congr 2
    omega
  rw [e3]
  have := rung_lt h0 h
  unfold rung at *
  rw [Nat.min_eq_left (by omega)]

theorem fl_zero : fl 0 = 0 := by decide
theorem fl_eq {n : Int} (h0 : n ≠ 0) (h : n.natAbs < 2 ^ 53) : fl n = Ieee.double.word (decide (n < 0)) (rung n.natAbs) := by
  have := nearest_whole (decide (n < 0)) 0 (m := n.natAbs) (by omega) h
  rw [Nat.pow_zero, Nat.mul_one] at this
  exact this

/-- What a whole number's bits are read as. -/
theorem read_fl {n : Int} (h : n.natAbs < 2 ^ 53) : ∃ k : Nat, FloatKind.f64.decode (fl n) = .number (decide (n < 0)) (n.natAbs * 2 ^ k) (-(k : Int)) := by
  by_cases h0 : n = 0
  · subst h0
    have e : ∀ k : Nat, (0 : Int).natAbs * 2 ^ k = 0 := fun k => by rw [Int.natAbs_zero, Nat.zero_mul]
    obtain ⟨k, hk⟩ : ∃ k : Nat, k = 1074 := ⟨_, rfl⟩
    refine ⟨k, ?_⟩
    rw [fl_zero, e, hk]
    show Ieee.double.read 0 = _
    decide
  · have hm : n.natAbs ≠ 0 := by omega
    have hl := log2_lt53 hm h
    have hb := scaled_bounds hm h
    have hr := rung_lt hm h
    refine ⟨52 - n.natAbs.log2, ?_⟩
    rw [fl_eq h0 h]
    show Ieee.double.read _ = _
    have e0 : Ieee.double.word (decide (n < 0)) (rung n.natAbs) / 2 ^ 63 % 2 = (decide (n < 0)).toNat ∧ Ieee.double.word (decide (n < 0)) (rung n.natAbs) % 2 ^ 63 = rung n.natAbs := by
      unfold Ieee.Format.word
      rw [signWeight]
      cases decide (n < 0) <;> simp <;> omega
    unfold Ieee.Format.read
    simp only [signWeight, binade, infRung, leastPlace, e0.1, e0.2]
    have e1 : ((decide (n < 0)).toNat == 1) = decide (n < 0) := by cases decide (n < 0) <;> rfl
    rw [e1]
    have hd : rung n.natAbs / 2 ^ 52 = n.natAbs.log2 + 1023 ∧ rung n.natAbs % 2 ^ 52 = n.natAbs * 2 ^ (52 - n.natAbs.log2) - 2 ^ 52 := by
      unfold rung
      generalize n.natAbs * 2 ^ (52 - n.natAbs.log2) = x at *
      omega
    rw [if_neg (by omega), if_pos (by omega), hd.1, hd.2]
    have e2 : (-1074 : Int) + ((n.natAbs.log2 + 1023 - 1 : Nat) : Int) = -((52 - n.natAbs.log2 : Nat) : Int) := by omega
    have e3 : 2 ^ 52 + (n.natAbs * 2 ^ (52 - n.natAbs.log2) - 2 ^ 52) = n.natAbs * 2 ^ (52 - n.natAbs.log2) := Nat.add_sub_of_le hb.1
    rw [e2, e3]

theorem encode_fl {n : Int} {k : Nat} (h : n.natAbs < 2 ^ 53) (s : Bool) (hs : s = decide (n < 0)) : FloatKind.f64.encode (.number s (n.natAbs * 2 ^ k) (-(k : Int))) = fl n := by
  subst hs
  by_cases h0 : n = 0
  · subst h0
    have : (0 : Int).natAbs * 2 ^ k = 0 := by simp
    rw [this, fl_zero]
    show Ieee.double.nearest (decide ((0 : Int) < 0)) 0 (-(k : Int)) = 0
    unfold Ieee.Format.nearest
    rfl
  · rw [fl_eq h0 h]
    exact nearest_whole _ k (by omega) h

theorem signed_fl (n : Int) (k K : Nat) (base : Int) (hb : base = -(K : Int)) (hk : k ≤ K) : Ieee.signed (decide (n < 0)) (n.natAbs * 2 ^ k) (-(k : Int) - base).toNat = n * 2 ^ K := by
  have e : (-(k : Int) - base).toNat = K - k := by omega
  have e2 : n.natAbs * 2 ^ k * 2 ^ (K - k) = n.natAbs * 2 ^ K := by rw [Nat.mul_assoc, ← Nat.pow_add]; congr 2; omega
  unfold Ieee.signed
  rw [e, Nat.shiftLeft_eq, e2]
  by_cases h : n < 0
  · rw [if_pos (by simpa using h)]
    have : (n.natAbs : Int) = -n := by omega
    rw [Int.natCast_mul, this, Int.neg_mul, Int.neg_neg, Int.natCast_pow]
    rfl
  · rw [if_neg (by simpa using h)]
    have : (n.natAbs : Int) = n := by omega
    rw [Int.natCast_mul, this, Int.natCast_pow]
    rfl

theorem order_fl {a b : Int} (ha : a.natAbs < 2 ^ 53) (hb : b.natAbs < 2 ^ 53) : FloatKind.f64.format.order (fl a) (fl b) = some (compare a b) := by
  obtain ⟨k, hk⟩ := read_fl ha
  obtain ⟨j, hj⟩ := read_fl hb
  show ((FloatKind.f64.decode (fl a)).order (FloatKind.f64.decode (fl b))) = _
  rw [hk, hj]
  simp only [Ieee.Datum.order]
  have hmin : min (-(k : Int)) (-(j : Int)) = -((max k j : Nat) : Int) := by omega
  rw [signed_fl a k (max k j) _ hmin (by omega), signed_fl b j (max k j) _ hmin (by omega)]
  have hp : (0 : Int) < 2 ^ (max k j) := Int.pow_pos (by decide)
  congr 1
  generalize (2 : Int) ^ (max k j) = P at *
  have c1 : a * P < b * P ↔ a < b := ⟨fun h => Int.lt_of_mul_lt_mul_right h (by omega), fun h => Int.mul_lt_mul_of_pos_right h hp⟩
  have c2 : a * P = b * P ↔ a = b := ⟨fun h => Int.eq_of_mul_eq_mul_right (by omega) h, fun h => by rw [h]⟩
  simp only [compare, compareOfLessAndEq, c1, c2]

theorem sum_data {a b : Int} (k j : Nat) (s t : Bool) (A B : Nat) (hA : ∀ (K : Nat) (base : Int), base = -(K : Int) → k ≤ K → Ieee.signed s A (-(k : Int) - base).toNat = a * 2 ^ K) (hB : ∀ (K : Nat) (base : Int), base = -(K : Int) → j ≤ K → Ieee.signed t B (-(j : Int) - base).toNat = b * 2 ^ K)
    (h0 : a + b = 0 → (s && t) = false) (h : (a + b).natAbs < 2 ^ 53) :
    ((Ieee.Datum.number s A (-(k : Int))).sum (.number t B (-(j : Int)))).map Ieee.double.write = some (fl (a + b)) := by
  simp only [Ieee.Datum.sum, Option.map_some]
  have hmin : min (-(k : Int)) (-(j : Int)) = -((max k j : Nat) : Int) := by omega
  rw [hA (max k j) _ hmin (by omega), hB (max k j) _ hmin (by omega), ← Int.add_mul, hmin]
  have hp : (0 : Int) < 2 ^ (max k j) := Int.pow_pos (by decide)
  have e1 : ((a + b) * 2 ^ (max k j)).natAbs = (a + b).natAbs * 2 ^ (max k j) := by
    have e2 : ((2 : Int) ^ (max k j)) = ((2 ^ (max k j) : Nat) : Int) := by simp
    rw [Int.natAbs_mul, e2, Int.natAbs_natCast]
  rw [e1]
  congr 1
  refine encode_fl h _ ?_
  by_cases hz : a + b = 0
  · rw [hz, if_pos (by simp), h0 hz]
    rfl
  · have : ¬ (a + b) * 2 ^ (max k j) = 0 := fun e => by
      rcases Int.mul_eq_zero.1 e with h | h
      · exact hz h
      · omega
    rw [if_neg this]
    congr 1
    have : (a + b) * 2 ^ (max k j) < 0 ↔ a + b < 0 := by
      constructor
      · intro h
        exact Int.lt_of_mul_lt_mul_right (a := (2 : Int) ^ (max k j)) (by simpa using h) (by omega)
      · intro h
        have := Int.mul_lt_mul_of_pos_right h hp
        simpa using this
    exact propext this

theorem add_fl {a b : Int} (ha : a.natAbs < 2 ^ 53) (hb : b.natAbs < 2 ^ 53) (h : (a + b).natAbs < 2 ^ 53) : floatBits .add .f64 (fl a) (fl b) = some (fl (a + b)) := by
  obtain ⟨k, hk⟩ := read_fl ha
  obtain ⟨j, hj⟩ := read_fl hb
  show (((FloatKind.f64.decode (fl a)).sum (FloatKind.f64.decode (fl b))).map Ieee.double.write) = _
  rw [hk, hj]
  refine sum_data k j _ _ _ _ (fun K base h1 h2 => signed_fl a k K base h1 h2) (fun K base h1 h2 => signed_fl b j K base h1 h2) (fun e => ?_) h
  by_cases h1 : a < 0
  · have : ¬ b < 0 := by omega
    simp [this]
  · simp [h1]

theorem signed_opp (n : Int) (k K : Nat) (base : Int) (hb : base = -(K : Int)) (hk : k ≤ K) : Ieee.signed (!decide (n < 0)) (n.natAbs * 2 ^ k) (-(k : Int) - base).toNat = -n * 2 ^ K := by
  have h := signed_fl n k K base hb hk
  unfold Ieee.signed at *
  by_cases h1 : n < 0
  · simp only [h1, decide_true, Bool.not_true, if_true, Bool.false_eq_true, if_false] at h ⊢
    rw [Int.neg_mul, ← h, Int.neg_neg]
  · simp only [h1, decide_false, Bool.not_false, if_true, Bool.false_eq_true, if_false] at h ⊢
    rw [Int.neg_mul, ← h]

theorem sub_fl {a b : Int} (ha : a.natAbs < 2 ^ 53) (hb : b.natAbs < 2 ^ 53) (h : (a - b).natAbs < 2 ^ 53) : floatBits .sub .f64 (fl a) (fl b) = some (fl (a - b)) := by
  obtain ⟨k, hk⟩ := read_fl ha
  obtain ⟨j, hj⟩ := read_fl hb
  show (((FloatKind.f64.decode (fl a)).sum (FloatKind.f64.decode (fl b)).opposite).map Ieee.double.write) = _
  rw [hk, hj]
  rw [Int.sub_eq_add_neg] at h ⊢
  refine sum_data k j _ _ _ _ (fun K base h1 h2 => signed_fl a k K base h1 h2) (fun K base h1 h2 => signed_opp b j K base h1 h2) (fun e => ?_) h
  by_cases h1 : a < 0
  · have : b < 0 := by omega
    simp [this]
  · simp [h1]

theorem integral_fl {n : Int} (h : n.natAbs < 2 ^ 53) (way : Ieee.Toward) : (FloatKind.f64.decode (fl n)).integral way = .number (decide (n < 0)) n.natAbs 0 := by
  obtain ⟨k, hk⟩ := read_fl h
  rw [hk]
  simp only [Ieee.Datum.integral]
  have e1 : (-(k : Int)).toNat = 0 := by omega
  have e2 : (- -(k : Int)).toNat = k := by omega
  rw [e1, e2, Nat.shiftLeft_zero, cut_whole]

theorem trunc_fl {n : Int} (h : n.natAbs < 2 ^ 53) (way : Ieee.Toward) : FloatKind.f64.encode ((FloatKind.f64.decode (fl n)).integral way) = fl n := by
  rw [integral_fl h]
  have := encode_fl (k := 0) h _ rfl
  simpa using this

theorem toInt_fl {n : Int} (h : n.natAbs < 2 ^ 53) (way : Ieee.Toward) : (FloatKind.f64.decode (fl n)).toInt way = some n := by
  unfold Ieee.Datum.toInt
  rw [integral_fl h]
  have := signed_fl n 0 0 0 rfl (Nat.le_refl _)
  simp at this
  simp [this]

theorem fl_lt (n : Int) : fl n < 2 ^ 64 := Ieee.Format.write_lt Ieee.double (.number (decide (n < 0)) n.natAbs 0)

theorem fl_neg {n : Int} (h : n.natAbs < 2 ^ 53) (hn : n < 0) : fl n = 2 ^ 63 + fl (-n) := by
  rw [fl_eq (by omega) h, fl_eq (by omega) (by omega)]
  have h2 : decide (-n < 0) = false := by simp; omega
  have h3 : decide (n < 0) = true := by simpa using hn
  rw [h2, h3, Int.natAbs_neg]
  rfl
theorem fl_small {n : Int} (h : n.natAbs < 2 ^ 53) (hn : 0 ≤ n) : fl n < 2 ^ 63 := by
  by_cases h0 : n = 0
  · subst h0; decide
  · rw [fl_eq h0 h]
    have : ¬ (n < 0) := by omega
    have := rung_lt (show n.natAbs ≠ 0 by omega) h
    simp [*, Ieee.Format.word]
    omega
/-- The bits without the sign. -/
theorem fl_abs {n : Int} (h : n.natAbs < 2 ^ 53) : fl n % 2 ^ 63 = fl (n.natAbs : Int) := by
  by_cases hn : n < 0
  · have h1 := fl_small (n := -n) (by omega) (by omega)
    rw [fl_neg h hn]
    have : (n.natAbs : Int) = -n := by omega
    rw [this]
    omega
  · have : (n.natAbs : Int) = n := by omega
    rw [this]
    exact Nat.mod_eq_of_lt (fl_small h (by omega))
theorem fl_isNaN {n : Int} (h : n.natAbs < 2 ^ 53) : (FloatKind.f64.decode (fl n)).isNaN = false := by
  obtain ⟨k, hk⟩ := read_fl h
  rw [hk]
  rfl
theorem fl_inj {a b : Int} (ha : a.natAbs < 2 ^ 53) (hb : b.natAbs < 2 ^ 53) (h : fl a = fl b) : a = b := by
  have h1 := toInt_fl ha .zero
  rw [h, toInt_fl hb .zero] at h1
  exact (Option.some.inj h1).symm

end Go.Proofs.Ytkpkimhpecbkoaa
