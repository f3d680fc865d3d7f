/-
  The CRC as a plain function; what is turned in one byte turns it.
-/
import Derived.Test.YthlbmjjodjepjaaBase
set_option linter.unusedVariables false
set_option linter.unusedSimpArgs false
namespace Go.Proofs.Ythlbmjjodjepjaa

def crcBit (c : UInt32) : UInt32 := if c &&& 1 = 1 then (c >>> 1) ^^^ 0xedb88320 else c >>> 1
def crcByte (c : UInt32) (x : UInt8) : UInt32 := crcBit (crcBit (crcBit (crcBit (crcBit (crcBit (crcBit (crcBit (c ^^^ x.toUInt32))))))))
def crcFold (l : List UInt8) (c : UInt32) : UInt32 := l.foldl crcByte c
def crcOf (l : List UInt8) : UInt32 := crcFold l 0xffffffff ^^^ 0xffffffff

theorem and_one_nat (c : UInt32) : (c &&& 1 = 1) ↔ c.toNat % 2 = 1 := by
  rw [← UInt32.toNat_inj, UInt32.toNat_and]
  show c.toNat &&& 1 = 1 ↔ _
  rw [Nat.and_one_is_mod]

theorem shr_one_nat (c : UInt32) : (c >>> 1).toNat = c.toNat / 2 := by
  rw [UInt32.toNat_shiftRight]
  show c.toNat >>> 1 = _
  rw [Nat.shiftRight_succ, Nat.shiftRight_zero]

theorem crcBit_nat (c : UInt32) : (crcBit c).toNat = if c.toNat % 2 = 1 then (c.toNat / 2) ^^^ 0xedb88320 else c.toNat / 2 := by
  unfold crcBit
  by_cases h : c &&& 1 = 1
  · rw [if_pos h, if_pos ((and_one_nat c).1 h), UInt32.toNat_xor, shr_one_nat]; rfl
  · rw [if_neg h, if_neg (fun h' => h ((and_one_nat c).2 h')), shr_one_nat]

theorem top_of_half (n : Nat) (h : n < 4294967296) : (n / 2).testBit 31 = false :=
  Nat.testBit_lt_two_pow (by have : (2 : Nat) ^ 31 = 2147483648 := by decide
                             omega)

theorem crcBit_inj {a b : UInt32} (h : crcBit a = crcBit b) : a = b := by
  have hn : (crcBit a).toNat = (crcBit b).toNat := by rw [h]
  rw [crcBit_nat, crcBit_nat] at hn
  have ha := a.toNat_lt
  have hb := b.toNat_lt
  apply UInt32.toNat_inj.1
  have ht : Nat.testBit 0xedb88320 31 = true := by decide
  by_cases pa : a.toNat % 2 = 1 <;> by_cases pb : b.toNat % 2 = 1
  · rw [if_pos pa, if_pos pb] at hn
    have : a.toNat / 2 = b.toNat / 2 := by
      have h2 := congrArg (· ^^^ 0xedb88320) hn
      simpa [Nat.xor_assoc] using h2
    omega
  · rw [if_pos pa, if_neg pb] at hn
    have h2 := congrArg (fun n => Nat.testBit n 31) hn
    simp only [Nat.testBit_xor, top_of_half _ ha, top_of_half _ hb, ht] at h2
    cases h2
  · rw [if_neg pa, if_pos pb] at hn
    have h2 := congrArg (fun n => Nat.testBit n 31) hn
    simp only [Nat.testBit_xor, top_of_half _ ha, top_of_half _ hb, ht] at h2
    cases h2
  · rw [if_neg pa, if_neg pb] at hn
    omega

theorem xor_right_cancel32 {a b x : UInt32} (h : a ^^^ x = b ^^^ x) : a = b := by
  have h2 := congrArg (· ^^^ x) h
  simpa [UInt32.xor_assoc] using h2
theorem xor_left_cancel32 {a b x : UInt32} (h : x ^^^ a = x ^^^ b) : a = b := by
  rw [UInt32.xor_comm x a, UInt32.xor_comm x b] at h
  exact xor_right_cancel32 h

theorem crc8_inj {a b : UInt32} (h : crcBit (crcBit (crcBit (crcBit (crcBit (crcBit (crcBit (crcBit a))))))) = crcBit (crcBit (crcBit (crcBit (crcBit (crcBit (crcBit (crcBit b)))))))) : a = b :=
  crcBit_inj (crcBit_inj (crcBit_inj (crcBit_inj (crcBit_inj (crcBit_inj (crcBit_inj (crcBit_inj h)))))))

theorem crcByte_inj {a b : UInt32} {x : UInt8} (h : crcByte a x = crcByte b x) : a = b := xor_right_cancel32 (crc8_inj h)
theorem crcByte_byte {a : UInt32} {x y : UInt8} (h : crcByte a x = crcByte a y) : x = y := by
  have h2 : x.toUInt32 = y.toUInt32 := xor_left_cancel32 (crc8_inj h)
  have h3 := congrArg UInt32.toNat h2
  simp at h3
  exact UInt8.toNat_inj.1 h3

theorem crcFold_inj (l : List UInt8) : ∀ {a b : UInt32}, crcFold l a = crcFold l b → a = b := by
  induction l with
  | nil => intro a b h; exact h
  | cons x l ih => intro a b h; exact crcByte_inj (ih h)

theorem crcFold_append (l m : List UInt8) (c : UInt32) : crcFold (l ++ m) c = crcFold m (crcFold l c) := by simp [crcFold]
theorem crcFold_cons (x : UInt8) (m : List UInt8) (c : UInt32) : crcFold (x :: m) c = crcFold m (crcByte c x) := rfl

/-- One byte turned turns the CRC. -/
theorem crcOf_turned (p s : List UInt8) (x y : UInt8) (h : x ≠ y) : crcOf (p ++ x :: s) ≠ crcOf (p ++ y :: s) := by
  intro e
  have e2 := xor_right_cancel32 e
  rw [crcFold_append, crcFold_append, crcFold_cons, crcFold_cons] at e2
  exact h (crcByte_byte (crcFold_inj s e2))

theorem crcOf_set (l : List UInt8) (k : Nat) (hk : k < l.length) (y : UInt8) (h : l[k] ≠ y) : crcOf l ≠ crcOf (l.set k y) := by
  have e1 : l = l.take k ++ l[k] :: l.drop (k + 1) := by simp
  have e2 : l.set k y = l.take k ++ y :: l.drop (k + 1) := by rw [List.set_eq_take_append_cons_drop, if_pos hk]
  rw [e2]
  conv => lhs; rw [e1]
  exact crcOf_turned _ _ _ _ h

-- digits
def hexDig (n : Nat) : UInt8 := [48, 49, 50, 51, 52, 53, 54, 55, 56, 57, 97, 98, 99, 100, 101, 102].getD n 0
def hexByte (x : UInt8) : List UInt8 := [hexDig (x.toNat / 16), hexDig (x.toNat % 16)]
def hexOf (l : List UInt8) : List UInt8 := l.flatMap hexByte

theorem hexOf_append (l m : List UInt8) : hexOf (l ++ m) = hexOf l ++ hexOf m := by simp [hexOf]
theorem hexOf_length (l : List UInt8) : (hexOf l).length = 2 * l.length := by
  induction l with
  | nil => rfl
  | cons x l ih => simp only [hexOf, List.flatMap_cons, List.length_append, List.length_cons] at ih ⊢; rw [ih]; simp [hexByte]; omega
theorem hexDig_inj {a b : Nat} (ha : a < 16) (hb : b < 16) (h : hexDig a = hexDig b) : a = b := by
  have key : ∀ a : Fin 16, ∀ b : Fin 16, hexDig a.1 = hexDig b.1 → a = b := by decide
  have := key ⟨a, ha⟩ ⟨b, hb⟩ h
  exact congrArg Fin.val this
theorem hexByte_inj {x y : UInt8} (h : hexByte x = hexByte y) : x = y := by
  have hx := x.toNat_lt
  have hy := y.toNat_lt
  simp only [hexByte, List.cons.injEq, and_true] at h
  have h1 := hexDig_inj (by omega) (by omega) h.1
  have h2 := hexDig_inj (by omega) (by omega) h.2
  exact UInt8.toNat_inj.1 (by omega)
theorem hexOf_set (l : List UInt8) (k : Nat) (hk : k < l.length) (y : UInt8) (h : l[k] ≠ y) : hexOf l ≠ hexOf (l.set k y) := by
  have e1 : l = l.take k ++ l[k] :: l.drop (k + 1) := by simp
  have e2 : l.set k y = l.take k ++ y :: l.drop (k + 1) := by rw [List.set_eq_take_append_cons_drop, if_pos hk]
  intro e
  rw [e2] at e
  conv at e => lhs; rw [e1]
  rw [hexOf_append, hexOf_append] at e
  have e3 := List.append_cancel_left e
  simp only [hexOf, List.flatMap_cons] at e3
  have e4 := List.append_inj_left e3 (by simp [hexByte])
  exact h (hexByte_inj e4)

theorem crc_known : crcOf [49, 50, 51, 52, 53, 54, 55, 56, 57] = 0xcbf43926 := by decide +kernel
theorem hex_known : hexOf [0, 0xaf] = [48, 48, 97, 102] := by decide +kernel

end Go.Proofs.Ythlbmjjodjepjaa
