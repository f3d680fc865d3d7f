/-
  Small lemmas on values, bytes and words that the walks of this seat share.
-/
import Derived.Test.YthlbmjjodjepjaaProg
import Derived.WalkKit
import Derived.KernelRfl
import Derived.RowKit3
import Derived.Deep.LoopGhost
import Derived.Deep.QuietTactic
import Derived.BigQuiet
import Derived.Deep.Draws
import Derived.Lib.Hide
import Derived.Deep.DeepCutAuto
import Derived.Deep.RegionHeld3
import Derived.WalkLawsBesides
import Derived.WalkSpells
set_option linter.unusedVariables false
set_option linter.unusedSimpArgs false
namespace Go.Proofs.Ythlbmjjodjepjaa
open Go.RowKit

/-- A byte, a word as a number: names that simp does not open. -/
def un8 (b : UInt8) : Int := (b.toNat : Int)
def un32 (x : UInt32) : Int := (x.toNat : Int)
theorem wrap64_small {n : Int} (h0 : -9223372036854775808 ≤ n) (h1 : n < 9223372036854775808) : wrap64 n = n := by unfold wrap64; omega
theorem un8_range (b : UInt8) : 0 ≤ un8 b ∧ un8 b < 256 := by unfold un8; have := b.toNat_lt; omega
theorem un32_range (x : UInt32) : 0 ≤ un32 x ∧ un32 x < 4294967296 := by unfold un32; have := x.toNat_lt; omega
theorem un8_inj {a b : UInt8} (h : un8 a = un8 b) : a = b := UInt8.toNat_inj.1 (by unfold un8 at h; omega)
theorem un32_inj {a b : UInt32} (h : un32 a = un32 b) : a = b := UInt32.toNat_inj.1 (by unfold un32 at h; omega)
theorem un8_mod32 (b : UInt8) : un8 b % 4294967296 = un32 b.toUInt32 := by
  have := un8_range b
  unfold un32 un8 at *
  simp
  omega
theorem un8_mod256 (b : UInt8) : un8 b % 256 = un8 b := by have := un8_range b; omega
theorem un32_mod (b : UInt32) : un32 b % 4294967296 = un32 b := by have := un32_range b; omega
theorem wrap64_un8 (b : UInt8) : wrap64 (un8 b) = un8 b := by have := un8_range b; exact wrap64_small (by omega) (by omega)
theorem wrap64_un32 (b : UInt32) : wrap64 (un32 b) = un32 b := by have := un32_range b; exact wrap64_small (by omega) (by omega)

/-- A byte, a word, as the model's value. -/
def B8 (b : UInt8) : Value := .int .u8 (un8 b)
/-- Bytes as cells. -/
def bv (l : List UInt8) : List Value := l.map B8

theorem bv_length (l : List UInt8) : (bv l).length = l.length := by simp [bv]
theorem bv_append (l m : List UInt8) : bv (l ++ m) = bv l ++ bv m := by simp [bv]
theorem bv_get (l : List UInt8) (i : Nat) (h : i < l.length) : (bv l)[i]? = some (B8 l[i]) := by simp [bv, List.getElem?_eq_getElem h]

/-- A slice of bytes that reads as l. -/
def RB (w : World) (A : Option Addr) (l : List UInt8) : Prop :=
  0 < l.length → ∃ ad, A = some ad ∧ ∀ j (h : j < l.length), w.cell? (ad.add j) = some (.int .u8 (un8 l[j]))

theorem RB.at_ {w : World} {A : Option Addr} {l : List UInt8} (h : RB w A l) (i : Nat) (hi : i < l.length) :
    ∃ ad, A = some ad ∧ w.cell? (ad.add i) = some (.int .u8 (un8 l[i])) := by
  obtain ⟨ad, e, hc⟩ := h (by omega)
  exact ⟨ad, e, hc i hi⟩

theorem ofInt_toNat32 (x : UInt32) : BitVec.ofInt 32 (un32 x) = x.toBitVec := by
  apply BitVec.eq_of_toNat_eq
  unfold un32
  rw [BitVec.ofInt_natCast, BitVec.toNat_ofNat]
  have := x.toNat_lt
  rw [Nat.mod_eq_of_lt this]
  rfl
theorem wrap_u32_nat (n : Nat) (h : n < 4294967296) : IntKind.u32.wrap (n : Int) = (n : Int) := by
  rw [IntKind.wrap_u32]; omega
theorem xor32 (x y : UInt32) : bits .xor .u32 (un32 x) (un32 y) = un32 (x ^^^ y) := by
  show IntKind.u32.wrap ((BitVec.ofInt 32 (un32 x) ^^^ BitVec.ofInt 32 (un32 y)).toNat : Int) = _
  rw [ofInt_toNat32, ofInt_toNat32]
  exact wrap_u32_nat _ (x ^^^ y).toNat_lt
theorem and32 (x y : UInt32) : bits .and .u32 (un32 x) (un32 y) = un32 (x &&& y) := by
  show IntKind.u32.wrap ((BitVec.ofInt 32 (un32 x) &&& BitVec.ofInt 32 (un32 y)).toNat : Int) = _
  rw [ofInt_toNat32, ofInt_toNat32]
  exact wrap_u32_nat _ (x &&& y).toNat_lt
theorem or32 (x y : UInt32) : bits .or .u32 (un32 x) (un32 y) = un32 (x ||| y) := by
  show IntKind.u32.wrap ((BitVec.ofInt 32 (un32 x) ||| BitVec.ofInt 32 (un32 y)).toNat : Int) = _
  rw [ofInt_toNat32, ofInt_toNat32]
  exact wrap_u32_nat _ (x ||| y).toNat_lt
theorem ofInt_toNat8 (x : UInt8) : BitVec.ofInt 8 (un8 x) = x.toBitVec := by
  apply BitVec.eq_of_toNat_eq
  unfold un8
  rw [BitVec.ofInt_natCast, BitVec.toNat_ofNat]
  have := x.toNat_lt
  rw [Nat.mod_eq_of_lt this]
  rfl
theorem wrap_u8_nat (n : Nat) (h : n < 256) : IntKind.u8.wrap (n : Int) = (n : Int) := by
  rw [IntKind.wrap_u8]; omega
theorem xor8 (x y : UInt8) : bits .xor .u8 (un8 x) (un8 y) = un8 (x ^^^ y) := by
  show IntKind.u8.wrap ((BitVec.ofInt 8 (un8 x) ^^^ BitVec.ofInt 8 (un8 y)).toNat : Int) = _
  rw [ofInt_toNat8, ofInt_toNat8]
  exact wrap_u8_nat _ (x ^^^ y).toNat_lt
theorem and8 (x y : UInt8) : bits .and .u8 (un8 x) (un8 y) = un8 (x &&& y) := by
  show IntKind.u8.wrap ((BitVec.ofInt 8 (un8 x) &&& BitVec.ofInt 8 (un8 y)).toNat : Int) = _
  rw [ofInt_toNat8, ofInt_toNat8]
  exact wrap_u8_nat _ (x &&& y).toNat_lt

theorem ret_int {k : IntKind} {a b : Int} (h : a = b) : Ending.returned (.int k a) = .returned (.int k b) := by rw [h]
theorem ret_bool {a b : Bool} (h : a = b) : Ending.returned (.bool a) = .returned (.bool b) := by rw [h]

end Go.Proofs.Ythlbmjjodjepjaa
