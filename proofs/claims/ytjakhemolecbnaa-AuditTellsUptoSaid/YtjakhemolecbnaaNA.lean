/-
  The texts Base, ShaPure, Rot, Mem, Arr, Sls of this proof in one (what is used of them): what each proves is said at its head. No conditions beyond those that each theorem says.
-/
import Derived.WalkKit
import Derived.KernelRfl
import Derived.RowKit3
import Derived.Deep.LoopGhost
import Derived.Deep.QuietTactic
import Derived.BigQuiet
import Derived.Deep.Draws
import Derived.Lib.Hide
import Derived.Deep.DeepCutAuto
import Derived.Deep.RegionHeld3
import Derived.WalkLawsBesides
import Derived.WalkSpells
import Derived.Maps.AppendAt
import Derived.Lib.ConvBytes
import Derived.Laws.CopyOwn
import Derived.Deep.RegionLaw
import Derived.Lib.SlBytesConst
import Derived.Deep.MidRow
import Derived.Test.YtjakhemolecbnaaProg

/-
  Small lemmas on values, bytes and words that the walks of this seat share.
-/
section
set_option linter.unusedVariables false
set_option linter.unusedSimpArgs false
namespace Go.Proofs.Ytjakhemolecbnaa
open Go.RowKit

/-- A byte, a word as a number: names that simp does not open. -/
def un8 (b : UInt8) : Int := (b.toNat : Int)
def un32 (x : UInt32) : Int := (x.toNat : Int)
theorem wrap64_small {n : Int} (h0 : -9223372036854775808 ≤ n) (h1 : n < 9223372036854775808) : wrap64 n = n := by unfold wrap64; omega
theorem un8_range (b : UInt8) : 0 ≤ un8 b ∧ un8 b < 256 := by unfold un8; have := b.toNat_lt; omega
theorem un32_range (x : UInt32) : 0 ≤ un32 x ∧ un32 x < 4294967296 := by unfold un32; have := x.toNat_lt; omega
theorem un8_inj {a b : UInt8} (h : un8 a = un8 b) : a = b := UInt8.toNat_inj.1 (by unfold un8 at h; omega)
theorem un32_inj {a b : UInt32} (h : un32 a = un32 b) : a = b := UInt32.toNat_inj.1 (by unfold un32 at h; omega)
theorem un8_mod32 (b : UInt8) : un8 b % 4294967296 = un32 b.toUInt32 := by
  have := un8_range b
  unfold un32 un8 at *
  simp
  omega
theorem un8_mod256 (b : UInt8) : un8 b % 256 = un8 b := by have := un8_range b; omega
theorem un32_mod (b : UInt32) : un32 b % 4294967296 = un32 b := by have := un32_range b; omega
theorem wrap64_un8 (b : UInt8) : wrap64 (un8 b) = un8 b := by have := un8_range b; exact wrap64_small (by omega) (by omega)
theorem wrap64_un32 (b : UInt32) : wrap64 (un32 b) = un32 b := by have := un32_range b; exact wrap64_small (by omega) (by omega)

/-- A byte, a word, as the model's value. -/
def B8 (b : UInt8) : Value := .int .u8 (un8 b)
/-- Bytes as cells. -/
def bv (l : List UInt8) : List Value := l.map B8

theorem bv_length (l : List UInt8) : (bv l).length = l.length := by simp [bv]
theorem bv_append (l m : List UInt8) : bv (l ++ m) = bv l ++ bv m := by simp [bv]
theorem bv_get (l : List UInt8) (i : Nat) (h : i < l.length) : (bv l)[i]? = some (B8 l[i]) := by simp [bv, List.getElem?_eq_getElem h]

/-- A slice of bytes that reads as l. -/
def RB (w : World) (A : Option Addr) (l : List UInt8) : Prop :=
  0 < l.length → ∃ ad, A = some ad ∧ ∀ j (h : j < l.length), w.cell? (ad.add j) = some (.int .u8 (un8 l[j]))

theorem RB.at_ {w : World} {A : Option Addr} {l : List UInt8} (h : RB w A l) (i : Nat) (hi : i < l.length) :
    ∃ ad, A = some ad ∧ w.cell? (ad.add i) = some (.int .u8 (un8 l[i])) := by
  obtain ⟨ad, e, hc⟩ := h (by omega)
  exact ⟨ad, e, hc i hi⟩

theorem ofInt_toNat32 (x : UInt32) : BitVec.ofInt 32 (un32 x) = x.toBitVec := by
  apply BitVec.eq_of_toNat_eq
  unfold un32
  rw [BitVec.ofInt_natCast, BitVec.toNat_ofNat]
  have := x.toNat_lt
  rw [Nat.mod_eq_of_lt this]
  rfl
theorem wrap_u32_nat (n : Nat) (h : n < 4294967296) : IntKind.u32.wrap (n : Int) = (n : Int) := by
  rw [IntKind.wrap_u32]; omega
theorem xor32 (x y : UInt32) : bits .xor .u32 (un32 x) (un32 y) = un32 (x ^^^ y) := by
  show IntKind.u32.wrap ((BitVec.ofInt 32 (un32 x) ^^^ BitVec.ofInt 32 (un32 y)).toNat : Int) = _
  rw [ofInt_toNat32, ofInt_toNat32]
  exact wrap_u32_nat _ (x ^^^ y).toNat_lt
theorem and32 (x y : UInt32) : bits .and .u32 (un32 x) (un32 y) = un32 (x &&& y) := by
  show IntKind.u32.wrap ((BitVec.ofInt 32 (un32 x) &&& BitVec.ofInt 32 (un32 y)).toNat : Int) = _
  rw [ofInt_toNat32, ofInt_toNat32]
  exact wrap_u32_nat _ (x &&& y).toNat_lt
theorem or32 (x y : UInt32) : bits .or .u32 (un32 x) (un32 y) = un32 (x ||| y) := by
  show IntKind.u32.wrap ((BitVec.ofInt 32 (un32 x) ||| BitVec.ofInt 32 (un32 y)).toNat : Int) = _
  rw [ofInt_toNat32, ofInt_toNat32]
  exact wrap_u32_nat _ (x ||| y).toNat_lt
theorem ofInt_toNat8 (x : UInt8) : BitVec.ofInt 8 (un8 x) = x.toBitVec := by
  apply BitVec.eq_of_toNat_eq
  unfold un8
  rw [BitVec.ofInt_natCast, BitVec.toNat_ofNat]
  have := x.toNat_lt
  rw [Nat.mod_eq_of_lt this]
  rfl
theorem wrap_u8_nat (n : Nat) (h : n < 256) : IntKind.u8.wrap (n : Int) = (n : Int) := by
  rw [IntKind.wrap_u8]; omega
theorem xor8 (x y : UInt8) : bits .xor .u8 (un8 x) (un8 y) = un8 (x ^^^ y) := by
  show IntKind.u8.wrap ((BitVec.ofInt 8 (un8 x) ^^^ BitVec.ofInt 8 (un8 y)).toNat : Int) = _
  rw [ofInt_toNat8, ofInt_toNat8]
  exact wrap_u8_nat _ (x ^^^ y).toNat_lt
theorem and8 (x y : UInt8) : bits .and .u8 (un8 x) (un8 y) = un8 (x &&& y) := by
  show IntKind.u8.wrap ((BitVec.ofInt 8 (un8 x) &&& BitVec.ofInt 8 (un8 y)).toNat : Int) = _
  rw [ofInt_toNat8, ofInt_toNat8]
  exact wrap_u8_nat _ (x &&& y).toNat_lt

theorem ret_int {k : IntKind} {a b : Int} (h : a = b) : Ending.returned (.int k a) = .returned (.int k b) := by rw [h]
theorem ret_bool {a b : Bool} (h : a = b) : Ending.returned (.bool a) = .returned (.bool b) := by rw [h]

end Go.Proofs.Ytjakhemolecbnaa
end

/-
  SHA-256 as plain functions on lists of words and bytes.
-/
section
set_option linter.unusedVariables false
set_option linter.unusedSimpArgs false
namespace Go.Proofs.Ytjakhemolecbnaa
open Go.RowKit

def shlW (x : UInt32) (s : Nat) : UInt32 := UInt32.ofNat (x.toNat * 2 ^ s)
def shrW (x : UInt32) (s : Nat) : UInt32 := UInt32.ofNat (x.toNat / 2 ^ s)
/-- x turned right by n (1 to 31). -/
def rotr (x : UInt32) (n : Nat) : UInt32 := shlW x (32 - n) ||| shrW x n
theorem un32_shl (x : UInt32) (s : Nat) : un32 (shlW x s) = un32 x * 2 ^ s % 4294967296 := by
  unfold un32 shlW
  rw [show ∀ n : Nat, (UInt32.ofNat n).toNat = n % 4294967296 from fun n => UInt32.toNat_ofNat']
  rw [Int.natCast_emod, Int.natCast_mul, Int.natCast_pow]; rfl
theorem un32_shr (x : UInt32) (s : Nat) : un32 (shrW x s) = un32 x / 2 ^ s := by
  unfold un32 shrW
  rw [show ∀ n : Nat, (UInt32.ofNat n).toNat = n % 4294967296 from fun n => UInt32.toNat_ofNat']
  have h : x.toNat / 2 ^ s ≤ x.toNat := Nat.div_le_self _ _
  have := x.toNat_lt
  rw [Nat.mod_eq_of_lt (by omega)]
  rw [Int.natCast_ediv, Int.natCast_pow]; rfl
theorem un32_add (x y : UInt32) : un32 (x + y) = (un32 x + un32 y) % 4294967296 := by
  unfold un32
  rw [UInt32.toNat_add]
  omega

def shaK : List UInt32 := [0x428a2f98, 0x71374491, 0xb5c0fbcf, 0xe9b5dba5, 0x3956c25b, 0x59f111f1, 0x923f82a4, 0xab1c5ed5, 0xd807aa98, 0x12835b01, 0x243185be, 0x550c7dc3, 0x72be5d74, 0x80deb1fe, 0x9bdc06a7, 0xc19bf174,
  0xe49b69c1, 0xefbe4786, 0x0fc19dc6, 0x240ca1cc, 0x2de92c6f, 0x4a7484aa, 0x5cb0a9dc, 0x76f988da, 0x983e5152, 0xa831c66d, 0xb00327c8, 0xbf597fc7, 0xc6e00bf3, 0xd5a79147, 0x06ca6351, 0x14292967,
  0x27b70a85, 0x2e1b2138, 0x4d2c6dfc, 0x53380d13, 0x650a7354, 0x766a0abb, 0x81c2c92e, 0x92722c85, 0xa2bfe8a1, 0xa81a664b, 0xc24b8b70, 0xc76c51a3, 0xd192e819, 0xd6990624, 0xf40e3585, 0x106aa070,
  0x19a4c116, 0x1e376c08, 0x2748774c, 0x34b0bcb5, 0x391c0cb3, 0x4ed8aa4a, 0x5b9cca4f, 0x682e6ff3, 0x748f82ee, 0x78a5636f, 0x84c87814, 0x8cc70208, 0x90befffa, 0xa4506ceb, 0xbef9a3f7, 0xc67178f2]
/-- The i-th word of a list. -/
def wd (l : List UInt32) (i : Nat) : UInt32 := l.getD i 0
def bt (l : List UInt8) (i : Nat) : UInt8 := l.getD i 0

/-- Four bytes as a word. -/
def be32 (l : List UInt8) (i : Nat) : UInt32 := shlW (bt l i).toUInt32 24 ||| shlW (bt l (i + 1)).toUInt32 16 ||| shlW (bt l (i + 2)).toUInt32 8 ||| (bt l (i + 3)).toUInt32
def sig0 (a : UInt32) : UInt32 := rotr a 7 ^^^ rotr a 18 ^^^ shrW a 3
def sig1 (a : UInt32) : UInt32 := rotr a 17 ^^^ rotr a 19 ^^^ shrW a 10
/-- The first i words of a block's schedule. -/
def sched (b : List UInt8) : Nat → List UInt32
  | 0 => []
  | i + 1 => sched b i ++ [if i < 16 then be32 b (4 * i) else wd (sched b i) (i - 16) + sig0 (wd (sched b i) (i - 15)) + wd (sched b i) (i - 7) + sig1 (wd (sched b i) (i - 2))]
theorem sched_length (b : List UInt8) (i : Nat) : (sched b i).length = i := by
  induction i with
  | zero => rfl
  | succ i ih => simp [sched, ih]

structure St where
  a : UInt32
  b : UInt32
  c : UInt32
  d : UInt32
  e : UInt32
  f : UInt32
  g : UInt32
  h : UInt32
def St.list (s : St) : List UInt32 := [s.a, s.b, s.c, s.d, s.e, s.f, s.g, s.h]
def bigE (e : UInt32) : UInt32 := rotr e 6 ^^^ rotr e 11 ^^^ rotr e 25
def bigA (a : UInt32) : UInt32 := rotr a 2 ^^^ rotr a 13 ^^^ rotr a 22
def choose3 (e f g : UInt32) : UInt32 := (e &&& f) ^^^ ((e ^^^ 0xffffffff) &&& g)
def major (a b c : UInt32) : UInt32 := ((a &&& b) ^^^ (a &&& c)) ^^^ (b &&& c)
def t1Of (s : St) (k w : UInt32) : UInt32 := s.h + bigE s.e + choose3 s.e s.f s.g + k + w
def t2Of (s : St) : UInt32 := bigA s.a + major s.a s.b s.c
def rnd (s : St) (k w : UInt32) : St := ⟨t1Of s k w + t2Of s, s.a, s.b, s.c, s.d + t1Of s k w, s.e, s.f, s.g⟩
def roundsAt (w : List UInt32) (s : St) : Nat → St
  | 0 => s
  | i + 1 => rnd (roundsAt w s i) (wd shaK i) (wd w i)
def addSt (s t : St) : St := ⟨s.a + t.a, s.b + t.b, s.c + t.c, s.d + t.d, s.e + t.e, s.f + t.f, s.g + t.g, s.h + t.h⟩
def compress (s : St) (blk : List UInt8) : St := addSt s (roundsAt (sched blk 64) s 64)
def h0 : St := ⟨0x6a09e667, 0xbb67ae85, 0x3c6ef372, 0xa54ff53a, 0x510e527f, 0x9b05688c, 0x1f83d9ab, 0x5be0cd19⟩
def stAt (p : List UInt8) : Nat → St
  | 0 => h0
  | i + 1 => compress (stAt p i) ((p.drop (64 * i)).take 64)

/-- How many noughts are filled in. -/
def padZ (n : Nat) : Nat := (119 - n % 64) % 64
theorem padZ_done (n : Nat) : (n + 1 + padZ n) % 64 = 56 := by unfold padZ; omega
theorem padZ_not (n j : Nat) (h : j < padZ n) : (n + 1 + j) % 64 ≠ 56 := by unfold padZ at h; omega
theorem padZ_lt (n : Nat) : padZ n < 64 := by unfold padZ; omega
/-- The low byte of n / 2 ^ k. -/
def byteAt (n k : Nat) : UInt8 := UInt8.ofNat (n / 2 ^ k)
/-- The first j of the eight bytes of a number. -/
def lenBytes (n : Nat) (j : Nat) : List UInt8 := (List.range j).map fun i => byteAt n (56 - 8 * i)
def padOf (l : List UInt8) : List UInt8 := l ++ 128 :: List.replicate (padZ l.length) 0 ++ lenBytes (l.length * 8) 8
theorem lenBytes_length (n j : Nat) : (lenBytes n j).length = j := by simp [lenBytes]
theorem padOf_length (l : List UInt8) : (padOf l).length = l.length + 1 + padZ l.length + 8 := by
  simp only [padOf, List.length_append, List.length_cons, List.length_replicate, lenBytes_length]; omega
theorem padOf_mod (l : List UInt8) : (padOf l).length % 64 = 0 := by rw [padOf_length]; have := padZ_done l.length; omega
def be4 (x : UInt32) : List UInt8 := [UInt8.ofNat (x.toNat / 2 ^ 24), UInt8.ofNat (x.toNat / 2 ^ 16), UInt8.ofNat (x.toNat / 2 ^ 8), UInt8.ofNat x.toNat]
def shaOf (l : List UInt8) : List UInt8 := (stAt (padOf l) ((padOf l).length / 64)).list.flatMap be4
theorem shaOf_length (l : List UInt8) : (shaOf l).length = 32 := by simp [shaOf, St.list, be4]

end Go.Proofs.Ytjakhemolecbnaa
end

/-
  The walks of bits.RotateLeft32 and of the reference's turn, at the amounts that SHA-256 names.
-/
section
set_option linter.unusedVariables false
set_option linter.unusedSimpArgs false
namespace Go.Proofs.Ytjakhemolecbnaa
open Go.RowKit

theorem amt_7 : bits .and .u64 (IntKind.u64.wrap (-7)) 31 = 25 := by decide +kernel
theorem shl_7 (x : UInt32) : un32 x * 33554432 % 4294967296 = un32 (shlW x 25) := (un32_shl x 25).symm
theorem shr_7 (x : UInt32) : un32 x / 128 = un32 (shrW x 7) := (un32_shr x 7).symm
section
attribute [local go_sem] amt_7 shl_7 shr_7 or32
set_option maxHeartbeats 1000000 in
theorem rot_7 (x : UInt32) (w : World) : Calls Try.prog 93 #[.int .u32 (un32 x), .int .i64 (-7)] w fun e w' => e = .returned (.int .u32 (un32 (rotr x 7))) ∧ w = w' := by
  go_enter Try.func93, Try.ntmps93
  go_wp2
  go_ret
  exact ⟨rfl, rfl⟩
set_option maxHeartbeats 1000000 in
theorem turn_7 (x : UInt32) (w : World) : Calls Try.prog 87 #[.int .u32 (un32 x), .int .u64 7] w fun e w' => e = .returned (.int .u32 (un32 (rotr x 7))) ∧ w = w' := by
  go_enter Try.func87, Try.ntmps87
  go_wp2
  go_ret
  exact ⟨ret_int (by rw [UInt32.or_comm]; rfl), rfl⟩
end

theorem amt_18 : bits .and .u64 (IntKind.u64.wrap (-18)) 31 = 14 := by decide +kernel
theorem shl_18 (x : UInt32) : un32 x * 16384 % 4294967296 = un32 (shlW x 14) := (un32_shl x 14).symm
theorem shr_18 (x : UInt32) : un32 x / 262144 = un32 (shrW x 18) := (un32_shr x 18).symm
section
attribute [local go_sem] amt_18 shl_18 shr_18 or32
set_option maxHeartbeats 1000000 in
theorem rot_18 (x : UInt32) (w : World) : Calls Try.prog 93 #[.int .u32 (un32 x), .int .i64 (-18)] w fun e w' => e = .returned (.int .u32 (un32 (rotr x 18))) ∧ w = w' := by
  go_enter Try.func93, Try.ntmps93
  go_wp2
  go_ret
  exact ⟨rfl, rfl⟩
set_option maxHeartbeats 1000000 in
theorem turn_18 (x : UInt32) (w : World) : Calls Try.prog 87 #[.int .u32 (un32 x), .int .u64 18] w fun e w' => e = .returned (.int .u32 (un32 (rotr x 18))) ∧ w = w' := by
  go_enter Try.func87, Try.ntmps87
  go_wp2
  go_ret
  exact ⟨ret_int (by rw [UInt32.or_comm]; rfl), rfl⟩
end

theorem amt_17 : bits .and .u64 (IntKind.u64.wrap (-17)) 31 = 15 := by decide +kernel
theorem shl_17 (x : UInt32) : un32 x * 32768 % 4294967296 = un32 (shlW x 15) := (un32_shl x 15).symm
theorem shr_17 (x : UInt32) : un32 x / 131072 = un32 (shrW x 17) := (un32_shr x 17).symm
section
attribute [local go_sem] amt_17 shl_17 shr_17 or32
set_option maxHeartbeats 1000000 in
theorem rot_17 (x : UInt32) (w : World) : Calls Try.prog 93 #[.int .u32 (un32 x), .int .i64 (-17)] w fun e w' => e = .returned (.int .u32 (un32 (rotr x 17))) ∧ w = w' := by
  go_enter Try.func93, Try.ntmps93
  go_wp2
  go_ret
  exact ⟨rfl, rfl⟩
set_option maxHeartbeats 1000000 in
theorem turn_17 (x : UInt32) (w : World) : Calls Try.prog 87 #[.int .u32 (un32 x), .int .u64 17] w fun e w' => e = .returned (.int .u32 (un32 (rotr x 17))) ∧ w = w' := by
  go_enter Try.func87, Try.ntmps87
  go_wp2
  go_ret
  exact ⟨ret_int (by rw [UInt32.or_comm]; rfl), rfl⟩
end

theorem amt_19 : bits .and .u64 (IntKind.u64.wrap (-19)) 31 = 13 := by decide +kernel
theorem shl_19 (x : UInt32) : un32 x * 8192 % 4294967296 = un32 (shlW x 13) := (un32_shl x 13).symm
theorem shr_19 (x : UInt32) : un32 x / 524288 = un32 (shrW x 19) := (un32_shr x 19).symm
section
attribute [local go_sem] amt_19 shl_19 shr_19 or32
set_option maxHeartbeats 1000000 in
theorem rot_19 (x : UInt32) (w : World) : Calls Try.prog 93 #[.int .u32 (un32 x), .int .i64 (-19)] w fun e w' => e = .returned (.int .u32 (un32 (rotr x 19))) ∧ w = w' := by
  go_enter Try.func93, Try.ntmps93
  go_wp2
  go_ret
  exact ⟨rfl, rfl⟩
set_option maxHeartbeats 1000000 in
theorem turn_19 (x : UInt32) (w : World) : Calls Try.prog 87 #[.int .u32 (un32 x), .int .u64 19] w fun e w' => e = .returned (.int .u32 (un32 (rotr x 19))) ∧ w = w' := by
  go_enter Try.func87, Try.ntmps87
  go_wp2
  go_ret
  exact ⟨ret_int (by rw [UInt32.or_comm]; rfl), rfl⟩
end

theorem amt_6 : bits .and .u64 (IntKind.u64.wrap (-6)) 31 = 26 := by decide +kernel
theorem shl_6 (x : UInt32) : un32 x * 67108864 % 4294967296 = un32 (shlW x 26) := (un32_shl x 26).symm
theorem shr_6 (x : UInt32) : un32 x / 64 = un32 (shrW x 6) := (un32_shr x 6).symm
section
attribute [local go_sem] amt_6 shl_6 shr_6 or32
set_option maxHeartbeats 1000000 in
theorem rot_6 (x : UInt32) (w : World) : Calls Try.prog 93 #[.int .u32 (un32 x), .int .i64 (-6)] w fun e w' => e = .returned (.int .u32 (un32 (rotr x 6))) ∧ w = w' := by
  go_enter Try.func93, Try.ntmps93
  go_wp2
  go_ret
  exact ⟨rfl, rfl⟩
set_option maxHeartbeats 1000000 in
theorem turn_6 (x : UInt32) (w : World) : Calls Try.prog 87 #[.int .u32 (un32 x), .int .u64 6] w fun e w' => e = .returned (.int .u32 (un32 (rotr x 6))) ∧ w = w' := by
  go_enter Try.func87, Try.ntmps87
  go_wp2
  go_ret
  exact ⟨ret_int (by rw [UInt32.or_comm]; rfl), rfl⟩
end

theorem amt_11 : bits .and .u64 (IntKind.u64.wrap (-11)) 31 = 21 := by decide +kernel
theorem shl_11 (x : UInt32) : un32 x * 2097152 % 4294967296 = un32 (shlW x 21) := (un32_shl x 21).symm
theorem shr_11 (x : UInt32) : un32 x / 2048 = un32 (shrW x 11) := (un32_shr x 11).symm
section
attribute [local go_sem] amt_11 shl_11 shr_11 or32
set_option maxHeartbeats 1000000 in
theorem rot_11 (x : UInt32) (w : World) : Calls Try.prog 93 #[.int .u32 (un32 x), .int .i64 (-11)] w fun e w' => e = .returned (.int .u32 (un32 (rotr x 11))) ∧ w = w' := by
  go_enter Try.func93, Try.ntmps93
  go_wp2
  go_ret
  exact ⟨rfl, rfl⟩
set_option maxHeartbeats 1000000 in
theorem turn_11 (x : UInt32) (w : World) : Calls Try.prog 87 #[.int .u32 (un32 x), .int .u64 11] w fun e w' => e = .returned (.int .u32 (un32 (rotr x 11))) ∧ w = w' := by
  go_enter Try.func87, Try.ntmps87
  go_wp2
  go_ret
  exact ⟨ret_int (by rw [UInt32.or_comm]; rfl), rfl⟩
end

theorem amt_25 : bits .and .u64 (IntKind.u64.wrap (-25)) 31 = 7 := by decide +kernel
theorem shl_25 (x : UInt32) : un32 x * 128 % 4294967296 = un32 (shlW x 7) := (un32_shl x 7).symm
theorem shr_25 (x : UInt32) : un32 x / 33554432 = un32 (shrW x 25) := (un32_shr x 25).symm
section
attribute [local go_sem] amt_25 shl_25 shr_25 or32
set_option maxHeartbeats 1000000 in
theorem rot_25 (x : UInt32) (w : World) : Calls Try.prog 93 #[.int .u32 (un32 x), .int .i64 (-25)] w fun e w' => e = .returned (.int .u32 (un32 (rotr x 25))) ∧ w = w' := by
  go_enter Try.func93, Try.ntmps93
  go_wp2
  go_ret
  exact ⟨rfl, rfl⟩
set_option maxHeartbeats 1000000 in
theorem turn_25 (x : UInt32) (w : World) : Calls Try.prog 87 #[.int .u32 (un32 x), .int .u64 25] w fun e w' => e = .returned (.int .u32 (un32 (rotr x 25))) ∧ w = w' := by
  go_enter Try.func87, Try.ntmps87
  go_wp2
  go_ret
  exact ⟨ret_int (by rw [UInt32.or_comm]; rfl), rfl⟩
end

theorem amt_2 : bits .and .u64 (IntKind.u64.wrap (-2)) 31 = 30 := by decide +kernel
theorem shl_2 (x : UInt32) : un32 x * 1073741824 % 4294967296 = un32 (shlW x 30) := (un32_shl x 30).symm
theorem shr_2 (x : UInt32) : un32 x / 4 = un32 (shrW x 2) := (un32_shr x 2).symm
section
attribute [local go_sem] amt_2 shl_2 shr_2 or32
set_option maxHeartbeats 1000000 in
theorem rot_2 (x : UInt32) (w : World) : Calls Try.prog 93 #[.int .u32 (un32 x), .int .i64 (-2)] w fun e w' => e = .returned (.int .u32 (un32 (rotr x 2))) ∧ w = w' := by
  go_enter Try.func93, Try.ntmps93
  go_wp2
  go_ret
  exact ⟨rfl, rfl⟩
set_option maxHeartbeats 1000000 in
theorem turn_2 (x : UInt32) (w : World) : Calls Try.prog 87 #[.int .u32 (un32 x), .int .u64 2] w fun e w' => e = .returned (.int .u32 (un32 (rotr x 2))) ∧ w = w' := by
  go_enter Try.func87, Try.ntmps87
  go_wp2
  go_ret
  exact ⟨ret_int (by rw [UInt32.or_comm]; rfl), rfl⟩
end

theorem amt_13 : bits .and .u64 (IntKind.u64.wrap (-13)) 31 = 19 := by decide +kernel
theorem shl_13 (x : UInt32) : un32 x * 524288 % 4294967296 = un32 (shlW x 19) := (un32_shl x 19).symm
theorem shr_13 (x : UInt32) : un32 x / 8192 = un32 (shrW x 13) := (un32_shr x 13).symm
section
attribute [local go_sem] amt_13 shl_13 shr_13 or32
set_option maxHeartbeats 1000000 in
theorem rot_13 (x : UInt32) (w : World) : Calls Try.prog 93 #[.int .u32 (un32 x), .int .i64 (-13)] w fun e w' => e = .returned (.int .u32 (un32 (rotr x 13))) ∧ w = w' := by
  go_enter Try.func93, Try.ntmps93
  go_wp2
  go_ret
  exact ⟨rfl, rfl⟩
set_option maxHeartbeats 1000000 in
theorem turn_13 (x : UInt32) (w : World) : Calls Try.prog 87 #[.int .u32 (un32 x), .int .u64 13] w fun e w' => e = .returned (.int .u32 (un32 (rotr x 13))) ∧ w = w' := by
  go_enter Try.func87, Try.ntmps87
  go_wp2
  go_ret
  exact ⟨ret_int (by rw [UInt32.or_comm]; rfl), rfl⟩
end

theorem amt_22 : bits .and .u64 (IntKind.u64.wrap (-22)) 31 = 10 := by decide +kernel
theorem shl_22 (x : UInt32) : un32 x * 1024 % 4294967296 = un32 (shlW x 10) := (un32_shl x 10).symm
theorem shr_22 (x : UInt32) : un32 x / 4194304 = un32 (shrW x 22) := (un32_shr x 22).symm
section
attribute [local go_sem] amt_22 shl_22 shr_22 or32
set_option maxHeartbeats 1000000 in
theorem rot_22 (x : UInt32) (w : World) : Calls Try.prog 93 #[.int .u32 (un32 x), .int .i64 (-22)] w fun e w' => e = .returned (.int .u32 (un32 (rotr x 22))) ∧ w = w' := by
  go_enter Try.func93, Try.ntmps93
  go_wp2
  go_ret
  exact ⟨rfl, rfl⟩
set_option maxHeartbeats 1000000 in
theorem turn_22 (x : UInt32) (w : World) : Calls Try.prog 87 #[.int .u32 (un32 x), .int .u64 22] w fun e w' => e = .returned (.int .u32 (un32 (rotr x 22))) ∧ w = w' := by
  go_enter Try.func87, Try.ntmps87
  go_wp2
  go_ret
  exact ⟨ret_int (by rw [UInt32.or_comm]; rfl), rfl⟩
end

end Go.Proofs.Ytjakhemolecbnaa
end

/-
  Memory: what a call may have turned; rows that are read; append onto a row of one's own from whatever source; bytes and strings.
-/
section
set_option linter.unusedVariables false
set_option linter.unusedSimpArgs false
namespace Go.Proofs.Ytjakhemolecbnaa
open Go.RowKit

theorem add_plain (g j : Nat) : (⟨g, 0, none⟩ : Addr).add j = ⟨g, j, none⟩ := by unfold Addr.add; split <;> simp_all
theorem add_off (g o j : Nat) : (⟨g, o, none⟩ : Addr).add j = ⟨g, o + j, none⟩ := by unfold Addr.add; split <;> simp_all
theorem add_add (a : Addr) (i j : Nat) : (a.add i).add j = a.add (i + j) := by
  unfold Addr.add
  by_cases h1 : i = 0 <;> by_cases h2 : j = 0 <;> simp [h1, h2, Nat.add_assoc]

/-- Of the old blocks only those in F may have turned. -/
structure Upd (F : Nat → Prop) (w w' : World) : Prop where
  os : w'.os = w.os
  tape : w'.tape = w.tape
  output : w'.output = w.output
  size : w.heap.size ≤ w'.heap.size
  block : ∀ k, k < w.heap.size → ¬ F k → w'.heap[k]? = w.heap[k]?

theorem Upd.refl (F : Nat → Prop) (w : World) : Upd F w w := ⟨rfl, rfl, rfl, Nat.le_refl _, fun _ _ _ => rfl⟩
theorem Upd.mono {F G : Nat → Prop} {w w' : World} (h : Upd F w w') (hFG : ∀ k, k < w.heap.size → F k → G k) : Upd G w w' :=
  ⟨h.os, h.tape, h.output, h.size, fun k hk hn => h.block k hk (fun hf => hn (hFG k hk hf))⟩
/-- What the second step turns is either what the first may have turned, or new. -/
theorem Upd.trans {F G : Nat → Prop} {a b c : World} (h : Upd F a b) (k : Upd G b c) (hG : ∀ i, i < a.heap.size → G i → F i) : Upd F a c :=
  ⟨k.os.trans h.os, k.tape.trans h.tape, k.output.trans h.output, Nat.le_trans h.size k.size,
    fun i hi hn => (k.block i (Nat.lt_of_lt_of_le hi h.size) (fun hg => hn (hG i hi hg))).trans (h.block i hi hn)⟩
theorem Upd.drew {F : Nat → Prop} {a w : World} (h : Upd F a w) : Upd F a w.drew := ⟨h.os, h.tape, h.output, h.size, h.block⟩
theorem Upd.drewN {F : Nat → Prop} {a w : World} (h : Upd F a w) (n : Nat) : Upd F a (w.drewN n) := ⟨h.os, h.tape, h.output, h.size, h.block⟩
theorem Upd.alloc {F : Nat → Prop} {a w : World} (h : Upd F a w) (o : Obj) : Upd F a (w.alloc o) :=
  ⟨h.os, h.tape, h.output, by have := h.size; simp; omega, fun k hk hn => (Below.heap_alloc w o k (Nat.lt_of_lt_of_le hk h.size)).trans (h.block k hk hn)⟩
theorem Upd.setCell {F : Nat → Prop} {a w : World} (h : Upd F a w) {p : Addr} (hp : p.block < a.heap.size → F p.block) (u : Value) : Upd F a (w.setCell p u) :=
  ⟨h.os, h.tape, h.output, by have := h.size; simp [World.setCell]; omega, fun k hk hn => (Below.heap_setCell w p u k (fun e => hn (e ▸ hp (e ▸ hk)))).trans (h.block k hk hn)⟩
theorem Upd.grown {F : Nat → Prop} {a w w' : World} (h : Upd F a w) {row : Option Nat} (hg : w.grownBy w' row) (hr : ∀ k, row = some k → k < a.heap.size → F k) : Upd F a w' :=
  ⟨hg.os.trans h.os, hg.tape.trans h.tape, hg.output.trans h.output, Nat.le_trans h.size hg.size,
    fun k hk hn => (hg.block k (Nat.lt_of_lt_of_le hk h.size) (fun e => hn (hr k e.symm hk))).trans (h.block k hk hn)⟩
theorem Upd.below {F : Nat → Prop} {a w w' : World} (h : Upd F a w) (hb : Below w.heap.size w w') : Upd F a w' :=
  ⟨hb.os.trans h.os, hb.tape.trans h.tape, hb.output.trans h.output, Nat.le_trans h.size hb.size,
    fun k hk hn => (hb.block k (Nat.lt_of_lt_of_le hk h.size)).trans (h.block k hk hn)⟩
theorem Upd.of_below {F : Nat → Prop} {w w' : World} (hb : Below w.heap.size w w') : Upd F w w' := (Upd.refl F w).below hb
theorem Upd.to_below {F : Nat → Prop} {w w' : World} {B : Nat} (h : Upd F w w') (hB : B ≤ w.heap.size) (hF : ∀ k, k < B → ¬ F k) : Below B w w' :=
  ⟨h.os, h.tape, h.output, h.size, fun k hk => h.block k (by omega) (hF k hk)⟩
/-- Behind a Below comes an Upd of blocks from B on. -/
theorem below_upd {F : Nat → Prop} {w0 w w' : World} {B : Nat} (h : Below B w0 w) (hB : B ≤ w.heap.size) (u : Upd F w w') (hF : ∀ k, F k → B ≤ k) : Below B w0 w' :=
  h.trans (u.to_below hB (fun k hk hf => by have := hF k hf; omega))
theorem below_below {B : Nat} {w0 w w' : World} (h : Below B w0 w) (hB : B ≤ w.heap.size) (k : Below w.heap.size w w') : Below B w0 w' :=
  h.trans (k.mono hB)

/-- A slice (its address: A) whose cells read as cs. -/
def RC (w : World) (A : Option Addr) (cs : List Value) : Prop :=
  0 < cs.length → ∃ ad, A = some ad ∧ ∀ j u, cs[j]? = some u → w.cell? (ad.add j) = some u
theorem RC.nil (w : World) (A : Option Addr) : RC w A [] := fun h => absurd h (by simp)
theorem RB.cells {w : World} {A : Option Addr} {l : List UInt8} (h : RB w A l) : RC w A (bv l) := by
  intro h0
  rw [bv_length] at h0
  obtain ⟨ad, e, hc⟩ := h h0
  refine ⟨ad, e, fun j u hj => ?_⟩
  have hl : j < l.length := by
    have := (List.getElem?_eq_some_iff.1 hj).1
    rwa [bv_length] at this
  rw [bv_get l j hl] at hj
  cases hj
  exact hc j hl
theorem RC.bytes {w : World} {A : Option Addr} {l : List UInt8} (h : RC w A (bv l)) : RB w A l := by
  intro h0
  obtain ⟨ad, e, hc⟩ := h (by rw [bv_length]; exact h0)
  exact ⟨ad, e, fun j hj => hc j _ (bv_get l j hj)⟩
theorem RC.step {w w' : World} {A : Option Addr} {cs : List Value} (h : RC w A cs) (hc : ∀ a v, w.cell? a = some v → w'.cell? a = some v) : RC w' A cs := by
  intro h0
  obtain ⟨ad, e, hr⟩ := h h0
  exact ⟨ad, e, fun j u hj => hc _ _ (hr j u hj)⟩
theorem RB_take {w : World} {A : Option Addr} {l : List UInt8} (h : RB w A l) (k : Nat) : RB w A (l.take k) := by
  intro h0
  obtain ⟨ad, e, hc⟩ := h (by simp at h0; omega)
  exact ⟨ad, e, fun j hj => by rw [hc j (by simp at hj; omega)]; simp⟩
theorem cell_below {w w' : World} (hb : Below w.heap.size w w') {a : Addr} {v : Value} (h : w.cell? a = some v) : w'.cell? a = some v :=
  (hb.cell (World.block_lt_of_cell? w a h)).trans h
theorem cell_belowB {B : Nat} {w w' : World} (hb : Below B w w') {a : Addr} (ha : a.block < B) {v : Value} (h : w.cell? a = some v) : w'.cell? a = some v := (hb.cell ha).trans h
theorem RC.below {w w' : World} {A : Option Addr} {cs : List Value} (h : RC w A cs) (hb : Below w.heap.size w w') : RC w' A cs := h.step fun _ _ => cell_below hb
theorem RB.step {w w' : World} {A : Option Addr} {l : List UInt8} (h : RB w A l) (hc : ∀ a v, w.cell? a = some v → w'.cell? a = some v) : RB w' A l := (h.cells.step hc).bytes
theorem RB.below {w w' : World} {A : Option Addr} {l : List UInt8} (h : RB w A l) (hb : Below w.heap.size w w') : RB w' A l := (h.cells.below hb).bytes
theorem RB.nil (w : World) (A : Option Addr) : RB w A [] := fun h => absurd h (by simp)
/-- The slice lies in old memory (below B), or is empty. -/
def InOld (B : Nat) (A : Option Addr) (cs : List Value) : Prop := 0 < cs.length → ∀ ad, A = some ad → ad.block < B
theorem RC.inOld {w : World} {A : Option Addr} {cs : List Value} (h : RC w A cs) : InOld w.heap.size A cs := by
  intro h0 ad e
  obtain ⟨ad', e', hc⟩ := h h0
  rw [e] at e'
  cases e'
  have h2 := hc 0 _ (List.getElem?_eq_getElem h0)
  have h3 := World.block_lt_of_cell? w _ h2
  unfold Addr.add at h3
  simpa using h3
theorem RC.belowB {B : Nat} {w w' : World} {A : Option Addr} {cs : List Value} (h : RC w A cs) (hb : Below B w w') (ho : InOld B A cs) : RC w' A cs := by
  intro h0
  obtain ⟨ad, e, hc⟩ := h h0
  refine ⟨ad, e, fun j u hj => (hb.cell ?_).trans (hc j u hj)⟩
  have := ho h0 ad e
  unfold Addr.add
  split <;> exact this
theorem RC.upd {F : Nat → Prop} {w w' : World} {A : Option Addr} {cs : List Value} (h : RC w A cs) (u : Upd F w w') (ho : 0 < cs.length → ∀ ad, A = some ad → ¬ F ad.block) : RC w' A cs := by
  intro h0
  obtain ⟨ad, e, hc⟩ := h h0
  refine ⟨ad, e, fun j v hj => ?_⟩
  have h1 := hc j v hj
  have hb : (ad.add j).block = ad.block := by unfold Addr.add; split <;> rfl
  have hlt := World.block_lt_of_cell? w _ h1
  exact (World.cell?_of_block (w := w) (u.block _ hlt (by rw [hb]; exact ho h0 ad e))).trans h1

/-- A new block is read. -/
theorem RC_new (W : World) (cs : Array Value) (e : TypeId) : RC (W.alloc (.cells cs e)) (some ⟨W.heap.size, 0, none⟩) cs.toList := by
  intro _
  refine ⟨_, rfl, fun j u hj => ?_⟩
  rw [add_plain, cell_of_row _ _ j cs e (0, 0) (heap_alloc_new W _)]
  simpa using hj
theorem RC_newL (W : World) (l : List Value) (e : TypeId) : RC (W.alloc (.cells l.toArray e)) (some ⟨W.heap.size, 0, none⟩) l := RC_new W l.toArray e
theorem RB_new (W : World) (l : List UInt8) (e : TypeId) : RB (W.alloc (.cells (bv l).toArray e)) (some ⟨W.heap.size, 0, none⟩) l := (RC_newL W (bv l) e).bytes
/-- The like of a block with a mark behind its cells ([]byte of a constant). -/
theorem RC_newM (W : World) (cs : Array Value) (e : TypeId) (fr : Nat × Nat) : RC (W.alloc (.cells cs e fr)) (some ⟨W.heap.size, 0, none⟩) cs.toList := by
  intro _
  refine ⟨_, rfl, fun j u hj => ?_⟩
  rw [add_plain, cell_of_row _ _ j cs e fr (heap_alloc_new W _)]
  simpa using hj
theorem RB_newM (W : World) (l : List UInt8) (e : TypeId) (fr : Nat × Nat) : RB (W.alloc (.cells (bv l).toArray e fr)) (some ⟨W.heap.size, 0, none⟩) l := RC.bytes (by simpa using RC_newM W (bv l).toArray e fr)
/-- The same, the new block's number given. -/
theorem RC_at (W : World) (cs : Array Value) (e : TypeId) (fr : Nat × Nat) (g : Nat) (hg : g = W.heap.size) : RC (W.alloc (.cells cs e fr)) (some ⟨g, 0, none⟩) cs.toList := by
  subst hg; exact RC_newM W cs e fr
theorem RB_at (W : World) (l : List UInt8) (e : TypeId) (fr : Nat × Nat) (g : Nat) (hg : g = W.heap.size) : RB (W.alloc (.cells (bv l).toArray e fr)) (some ⟨g, 0, none⟩) l := by
  subst hg; exact RB_newM W l e fr
/-- What a row of one's own holds is read. -/
theorem own_RC {w : World} {base : Nat} {e : TypeId} {size n : Nat} {A : Option Addr} {m c : Nat} {xs : List Value} (h : w.ownsRow base e size (.slice A m c) n xs) : RC w A xs := by
  intro h0
  rcases h.2 with ⟨h', hn⟩ | ⟨g, cap, cur, h', _⟩
  · rw [hn] at h
    have := h.1
    simp at this
    rw [this] at h0
    simp at h0
  · cases h'
    exact ⟨_, rfl, h.cells (g := g) rfl⟩
theorem own_slice {w : World} {base n : Nat} {e : TypeId} {size : Nat} {v : Value} {xs : List Value} (h : w.ownsRow base e size v n xs) : ∃ A c, v = .slice A n c ∧ n ≤ c := by
  rcases h.2 with ⟨rfl, rfl⟩ | ⟨g, cap, cur, rfl, _, _, hn, _⟩
  · exact ⟨none, 0, rfl, Nat.le_refl _⟩
  · exact ⟨_, cap, rfl, hn⟩
theorem own_form {w : World} {base n : Nat} {e : TypeId} {size : Nat} {v : Value} {xs : List Value} (h : w.ownsRow base e size v n xs) (hn : 0 < n) : ∃ g c, v = .slice (some ⟨g, 0, none⟩) n c ∧ base ≤ g ∧ n ≤ c := by
  rcases h.2 with ⟨rfl, h0⟩ | ⟨g, cap, cur, rfl, hb, _, hn, _⟩
  · omega
  · exact ⟨g, cap, rfl, hb, hn⟩
theorem own_byte {w : World} {base n g c : Nat} {e : TypeId} {l : List UInt8} (h : w.ownsRow base e 1 (.slice (some ⟨g, 0, none⟩) n c) n (bv l)) (k : Nat) (hk : k < l.length) : w.cell? ⟨g, k, none⟩ = some (.int .u8 (un8 l[k])) := by
  have h1 := h.1
  rw [bv_length] at h1
  rw [h.cellAt k (by omega), bv_get l k hk]
  rfl

theorem own_lower {w : World} {base base' n : Nat} {e : TypeId} {size : Nat} {v : Value} {xs : List Value} (h : w.ownsRow base e size v n xs) (hb : base' ≤ base) : w.ownsRow base' e size v n xs := by
  refine ⟨h.1, ?_⟩
  rcases h.2 with h2 | ⟨g, cap, cur, hv, hg, r⟩
  · exact .inl h2
  · exact .inr ⟨g, cap, cur, hv, Nat.le_trans hb hg, r⟩
theorem own_upd {F : Nat → Prop} {w w' : World} {base n : Nat} {e : TypeId} {size : Nat} {v : Value} {xs : List Value} (h : w.ownsRow base e size v n xs) (u : Upd F w w') (hF : ∀ k, v.ownBlock = some k → ¬ F k) : w'.ownsRow base e size v n xs := by
  refine ⟨h.1, ?_⟩
  rcases h.2 with h2 | ⟨g, cap, cur, rfl, hb, hg, r⟩
  · exact .inl h2
  · refine .inr ⟨g, cap, cur, rfl, hb, ?_, r⟩
    rw [u.block g (Array.getElem?_eq_some_iff.1 hg).1 (hF g rfl)]
    exact hg
theorem own_below {w w' : World} {base n : Nat} {e : TypeId} {size : Nat} {v : Value} {xs : List Value} (h : w.ownsRow base e size v n xs) (hb : Below w.heap.size w w') : w'.ownsRow base e size v n xs :=
  own_upd h (Upd.of_below (F := fun _ => False) hb) (fun _ _ => id)
/-- 's[:k]' of a row of one's own. -/
theorem own_take {w : World} {base n : Nat} {e : TypeId} {size : Nat} {A : Option Addr} {c : Nat} {xs : List Value} (h : w.ownsRow base e size (.slice A n c) n xs) (k : Nat) (hk : k ≤ n) : w.ownsRow base e size (.slice A k c) k (xs.take (k * size)) := by
  refine ⟨by rw [List.length_take, h.1]; exact Nat.min_eq_left (Nat.mul_le_mul_right _ hk), ?_⟩
  rcases h.2 with ⟨h', hn⟩ | ⟨g, cap, cur, h', hb, hg, hnc, hcm, hcs, ht⟩
  · cases h'
    exact .inl ⟨by rw [show k = 0 by omega], by omega⟩
  · cases h'
    refine .inr ⟨g, _, cur, rfl, hb, hg, by omega, hcm, hcs, ?_⟩
    rw [← ht, List.take_take, Nat.min_eq_left (Nat.mul_le_mul_right _ hk)]

section
variable {P : Program}

/-- 'append(v, src...)': v a row of one's own, src whatever reads as news (nil, too). -/
theorem run_append_any (w : World) (base : Nat) (t ty e : TypeId) (z : Value) (size bytes : Nat) (ht : P.underlying t = some (.slice e))
    (hinfo : (P.info? e).map (fun i => (i.zero, i.size, i.bytes)) = some (some z, size, bytes)) (hzs : z.cells.size = size) (hsz : 0 < size) (hb0 : 0 < bytes)
    (v : Value) (n : Nat) (xs : List Value) (hown : w.ownsRow base e size v n xs)
    (A : Option Addr) (m c : Nat) (news : List Value) (hl : news.length = m * size) (hr : RC w A news) (h1 : ∀ u ∈ news, u.oneCell' = true)
    (hbytes : (n + m) * bytes ≤ 140737488355328) (hbase : base ≤ w.heap.size) :
    ∃ v' w', (Builtin.append_ #[t, t] ty #[v, .slice A m c]).run P w = .ok v' w' ∧ w'.ownsRow base e size v' (n + m) (xs ++ news) ∧ w.grownBy w' v.ownBlock ∧ (v'.ownBlock = v.ownBlock ∨ v'.ownBlock = some w.heap.size) := by
  obtain ⟨i0, hi, hzz⟩ := Option.map_eq_some_iff.1 hinfo
  simp only [Prod.mk.injEq] at hzz
  obtain ⟨hz0, hz1, hz2⟩ := hzz
  have hlen : n + m ≤ 140737488355328 := Nat.le_trans (Nat.le_mul_of_pos_right _ hb0) hbytes
  by_cases hm : m = 0
  · subst hm
    obtain rfl : news = [] := List.eq_nil_of_length_eq_zero (by simpa using hl)
    rcases A with _ | ad
    · refine ⟨v, w, ?_, by simpa using hown, World.grownBy.refl w _, .inl rfl⟩
      rcases hown.2 with ⟨rfl, hn⟩ | ⟨g, cap, cur, rfl, _, _, hnc, _⟩
      · simp [Builtin.append_, run_underlying ht, sizeOf, typeInfo, hi, Builtin.lenOf, Builtin.firstCells]
      · simp [Builtin.append_, run_underlying ht, sizeOf, typeInfo, hi, Builtin.lenOf, Builtin.firstCells, hnc, storeCells]
    · obtain ⟨v1, w1, hrun, h2, h3, _, h5⟩ := run_append_own_at (P := P) w base t ty e i0 z size bytes ht hi hz0 hz1 hz2 hzs hsz v n xs hown ad 0 c [] (by simp) (fun j u h => by simp at h) (by simp) (by simp only [maxLen]; omega) hbytes hbase
      exact ⟨v1, w1, hrun, h2, h3, h5⟩
  · have hpos : 0 < news.length := by rw [hl]; exact Nat.mul_pos (by omega) hsz
    obtain ⟨ad, rfl, hc⟩ := hr hpos
    obtain ⟨v1, w1, hrun, h2, h3, _, h5⟩ := run_append_own_at (P := P) w base t ty e i0 z size bytes ht hi hz0 hz1 hz2 hzs hsz v n xs hown ad m c news hl hc h1 (by simp only [maxLen]; omega) hbytes hbase
    exact ⟨v1, w1, hrun, h2, h3, h5⟩

/-- The same at the operation, for the walk. -/
theorem append_any {ops : Array Oper} {rest : List Oper} {o : Oper} {a : Act} {Q : Exit → Act → World → Prop} {w : World} (hgd : o.guard = none) (s x : Operand) (t : TypeId)
    (ho : o.op = .call { callee := .builtin .append, args := #[s, x], argTypes := #[t, t] })
    (base : Nat) (e : TypeId) (z : Value) (size bytes : Nat) (ht : P.underlying t = some (.slice e))
    (hinfo : (P.info? e).map (fun i => (i.zero, i.size, i.bytes)) = some (some z, size, bytes)) (hzs : z.cells.size = size) (hsz : 0 < size) (hb0 : 0 < bytes)
    (v : Value) (n : Nat) (xs : List Value) (hs : a.eval s = v) (hown : w.ownsRow base e size v n xs)
    (A : Option Addr) (m c : Nat) (news : List Value) (hx : a.eval x = .slice A m c) (hl : news.length = m * size) (hr : RC w A news) (h1 : ∀ u ∈ news, u.oneCell' = true)
    (hbytes : (n + m) * bytes ≤ 140737488355328) (hbase : base ≤ w.heap.size)
    (h : ∀ v' w', w'.ownsRow base e size v' (n + m) (xs ++ news) → w.grownBy w' v.ownBlock → (v'.ownBlock = v.ownBlock ∨ v'.ownBlock = some w.heap.size) → wpList P ops Q rest (a.put o.dst v') w') :
    wpList P ops Q (o :: rest) a w := by
  refine wpList_plain hgd fun K hK => ?_
  obtain ⟨v', w', hrun, h2, h3, h5⟩ := run_append_any (P := P) w base t o.type e z size bytes ht hinfo hzs hsz hb0 v n xs hown A m c news hl hr h1 hbytes hbase
  unfold Oper.wp execOp
  simp only [ho, resolve, invoke, builtin, Sem.run_bind, Sem.run_pure, Result.andThen_ok, List.map_toArray, List.map_cons, List.map_nil, hs, hx, hrun]
  exact hK _ _ (h v' w' h2 h3 h5)

theorem bv_one (l : List UInt8) : ∀ u ∈ bv l, u.oneCell' = true := by
  intro u hu
  simp only [bv, List.mem_map] at hu
  obtain ⟨q, _, rfl⟩ := hu
  rfl

/-- 'append(v, b...)' of bytes. -/
theorem append_bytes {ops : Array Oper} {rest : List Oper} {o : Oper} {a : Act} {Q : Exit → Act → World → Prop} {w : World} (hgd : o.guard = none) (s x : Operand) (t : TypeId)
    (ho : o.op = .call { callee := .builtin .append, args := #[s, x], argTypes := #[t, t] })
    (base : Nat) (e : TypeId) (ht : P.underlying t = some (.slice e))
    (hinfo : (P.info? e).map (fun i => (i.zero, i.size, i.bytes)) = some (some (.int .u8 0), 1, 1))
    (v : Value) (xs : List UInt8) (hs : a.eval s = v) (hown : w.ownsRow base e 1 v xs.length (bv xs))
    (A : Option Addr) (m c : Nat) (ys : List UInt8) (hx : a.eval x = .slice A m c) (hl : ys.length = m) (hr : RB w A ys)
    (hbytes : xs.length + m ≤ 140737488355328) (hbase : base ≤ w.heap.size)
    (h : ∀ v' w', w'.ownsRow base e 1 v' (xs.length + m) (bv (xs ++ ys)) → w.grownBy w' v.ownBlock → (v'.ownBlock = v.ownBlock ∨ v'.ownBlock = some w.heap.size) → wpList P ops Q rest (a.put o.dst v') w') :
    wpList P ops Q (o :: rest) a w :=
  append_any hgd s x t ho base e (.int .u8 0) 1 1 ht hinfo rfl (by omega) (by omega) v xs.length (bv xs) hs hown A m c (bv ys) hx (by rw [bv_length]; omega) hr.cells (bv_one ys) (by omega) hbase
    (fun v' w' h1 h2 h3 => h v' w' (by rw [bv_append]; exact h1) h2 h3)

/-- The same as one step of a region that draws its order. -/
theorem step_append_any {ops : Array Oper} {o : Oper} {a : Act} {K : Act → World → Prop} {Q : Exit → Act → World → Prop} {E : Prop} {w : World} (hgd : o.guard = none) (s x : Operand) (t : TypeId)
    (ho : o.op = .call { callee := .builtin .append, args := #[s, x], argTypes := #[t, t] })
    (base : Nat) (e : TypeId) (z : Value) (size bytes : Nat) (ht : P.underlying t = some (.slice e))
    (hinfo : (P.info? e).map (fun i => (i.zero, i.size, i.bytes)) = some (some z, size, bytes)) (hzs : z.cells.size = size) (hsz : 0 < size) (hb0 : 0 < bytes)
    (v : Value) (n : Nat) (xs : List Value) (hs : a.eval s = v) (hown : w.ownsRow base e size v n xs)
    (A : Option Addr) (m c : Nat) (news : List Value) (hx : a.eval x = .slice A m c) (hl : news.length = m * size) (hr : RC w A news) (h1 : ∀ u ∈ news, u.oneCell' = true)
    (hbytes : (n + m) * bytes ≤ 140737488355328) (hbase : base ≤ w.heap.size)
    (h : ∀ v' w', w'.ownsRow base e size v' (n + m) (xs ++ news) → w.grownBy w' v.ownBlock → (v'.ownBlock = v.ownBlock ∨ v'.ownBlock = some w.heap.size) → K (a.put o.dst v') w') :
    if Region.wanted o (yielded ops a.tmps) = true then Oper.wp P o a w K Q else E := by
  have hw : Region.wanted o (yielded ops a.tmps) = true := by simp [Region.wanted, hgd]
  rw [if_pos hw]
  obtain ⟨v', w', hrun, h2, h3, h5⟩ := run_append_any (P := P) w base t o.type e z size bytes ht hinfo hzs hsz hb0 v n xs hown A m c news hl hr h1 hbytes hbase
  unfold Oper.wp execOp
  simp only [ho, resolve, invoke, builtin, Sem.run_bind, Sem.run_pure, Result.andThen_ok, List.map_toArray, List.map_cons, List.map_nil, hs, hx, hrun]
  exact h v' w' h2 h3 h5

/-- 'string(b)'. -/
theorem run_string_RB (w : World) (src dst e : TypeId) (hs : P.underlying src = some (.slice e)) (he : P.underlying e = some (.int .u8)) (hd : P.underlying dst = some .string)
    (A : Option Addr) (n c : Nat) (l : List UInt8) (hl : l.length = n) (hr : RB w A l) : (convert src dst (.slice A n c)).run P w = .ok (.string ⟨l.toArray⟩) w := by
  rcases A with _ | ⟨b, off, sp⟩
  · have h0 : l = [] := by
      rcases l with _ | ⟨x, l⟩
      · rfl
      · obtain ⟨ad, h, _⟩ := hr (by simp)
        cases h
    subst h0
    exact run_convert_bytes_nil w src e hs he n c dst hd
  · by_cases h0 : l.length = 0
    · have h0' : l = [] := List.eq_nil_of_length_eq_zero h0
      subst h0'
      obtain rfl : n = 0 := by simpa using hl.symm
      rw [run_convert_bytes_string w src dst e _ 0 c hs he hd]
      have hl : (loadCells ⟨b, off, sp⟩ 0).run P w = .ok ([].map (Value.int .u8)).toArray w := by simp [loadCells, loadCellsFrom]
      rw [run_bytesToString w _ 0 c [] hl]
      rfl
    · obtain ⟨ad, e1, hc⟩ := hr (by omega)
      cases e1
      have hsp : sp = none := by
        have := hc 0 (by omega)
        simp only [Addr.add, if_true] at this
        unfold World.cell? at this
        cases sp with
        | none => rfl
        | some s => simp at this; split at this <;> simp at this
      subst hsp
      have hrun := run_convert_bytes_arg (P := P) w src e hs he b off n c (l.map un8) (by simpa using hl) (fun i hi => by
        have := hc i (by omega)
        rw [add_off] at this
        rw [this]
        simp [List.getD_eq_getElem?_getD, List.getElem?_eq_getElem (show i < l.length by omega)]) dst hd
      rw [hrun]
      have e2 : strOfNums (l.map un8) = ⟨l.toArray⟩ := by
        unfold strOfNums
        congr 1
        congr 1
        rw [List.map_map]
        conv => rhs; rw [← List.map_id l]
        apply List.map_congr_left
        intro x _
        simp [un8]
      rw [e2]

theorem data_length (s : ByteArray) : s.data.toList.length = s.size := by rw [Array.length_toList]; rfl

/-- '[]byte(s)'. -/
theorem bytes_RB (W : World) (e : TypeId) (s : ByteArray) : RB (Lib.bytesWorld W e s) (some ⟨W.heap.size, 0, none⟩) s.data.toList := by
  intro h0
  refine ⟨_, rfl, fun j hj => ?_⟩
  rw [add_plain, Lib.bytesWorld_cell W e s j (by rw [← data_length]; exact hj)]
  have hj' : j < s.data.size := by simpa using hj
  simp [un8, List.getD_eq_getElem?_getD, Array.getElem?_eq_getElem hj']
theorem bytes_below {B : Nat} {w W : World} (h : Below B w W) (hB : B ≤ W.heap.size) (e : TypeId) (s : ByteArray) : Below B w (Lib.bytesWorld W e s) :=
  h.trans ⟨rfl, rfl, rfl, by rw [Lib.bytesWorld_size]; omega, fun i hi => Lib.bytesWorld_at_old W e s i (by omega)⟩
end

/-- An argument's row of bytes (the shape that the row's proof opens). -/
theorem arg_RB {w : World} {a : Option Addr} {len cap : Nat} {zs : List Int}
    (h : (a = none ∧ len = 0 ∧ cap = 0 ∧ zs = []) ∨
      ∃ x, a = some x ∧ len ≤ cap ∧ cap ≤ maxLen ∧ zs.length = cap ∧ (∀ i, i < zs.length → w.cell? (x.add i) = some (.int .u8 (zs.getD i 0))) ∧ ∀ n ∈ zs, (Lit.int .u8 n).wf = true) :
    ∃ l : List UInt8, l.length = len ∧ len ≤ cap ∧ cap ≤ maxLen ∧ RB w a l := by
  rcases h with ⟨rfl, rfl, rfl, rfl⟩ | ⟨x, rfl, hl, hm, hz, hc, hw⟩
  · exact ⟨[], rfl, Nat.le_refl _, by simp [maxLen], RB.nil _ _⟩
  · refine ⟨(zs.take len).map fun n => UInt8.ofNat n.toNat, by simp; omega, hl, hm, fun _ => ⟨x, rfl, fun j hj => ?_⟩⟩
    have hj' : j < zs.length := by simp at hj; omega
    rw [hc j hj']
    have hb := hw _ (List.getElem_mem hj')
    simp [Lit.wf, IntKind.min, IntKind.max, IntKind.signed, IntKind.bits] at hb
    simp [List.getD_eq_getElem?_getD, List.getElem?_eq_getElem hj', un8]
    omega

theorem wf64 {n : Int} (h : (Lit.int .i64 n).wf = true) : -9223372036854775808 ≤ n ∧ n ≤ 9223372036854775807 := by
  simp [Lit.wf, IntKind.min, IntKind.max, IntKind.signed, IntKind.bits] at h
  omega

theorem info8 : (Try.prog.info? 5).map (fun i => (i.zero, i.size, i.bytes)) = some (some (.int .u8 0), 1, 1) := by kernel_rfl

end Go.Proofs.Ytjakhemolecbnaa
end

/-
  Arrays of words that stand in a block of their own.
-/
section
set_option linter.unusedVariables false
set_option linter.unusedSimpArgs false
namespace Go.Proofs.Ytjakhemolecbnaa
open Go.RowKit

def W32 (x : UInt32) : Value := .int .u32 (un32 x)
def wv (l : List UInt32) : List Value := l.map W32
theorem wv_length (l : List UInt32) : (wv l).length = l.length := by simp [wv]
theorem wv_get (l : List UInt32) (i : Nat) (h : i < l.length) : (wv l)[i]? = some (W32 (wd l i)) := by simp [wv, wd, List.getElem?_eq_getElem h]
theorem wv_one (l : List UInt32) : ∀ v ∈ wv l, v.oneCell' = true := by
  intro v hv
  simp only [wv, List.mem_map] at hv
  obtain ⟨q, _, rfl⟩ := hv
  rfl

/-- What is read, at the address's own parts. -/
theorem RB.parts {w : World} {A : Option Addr} {l : List UInt8} (h : RB w A l) (h0 : 0 < l.length) :
    ∃ b o, A = some ⟨b, o, none⟩ ∧ ∀ j (hj : j < l.length), w.cell? ⟨b, o + j, none⟩ = some (.int .u8 (un8 l[j])) := by
  obtain ⟨⟨b, o, sp⟩, e, hc⟩ := h h0
  have hsp : sp = none := by
    have := hc 0 h0
    simp only [Addr.add, if_true] at this
    unfold World.cell? at this
    cases sp with
    | none => rfl
    | some s => simp at this; split at this <;> simp at this
  subst hsp
  exact ⟨b, o, e, fun j hj => by rw [← add_off]; exact hc j hj⟩

/-- Block g holds the array xs. -/
def Arr (w : World) (g : Nat) (t : TypeId) (xs : List Value) : Prop := w.heap[g]? = some (.cells xs.toArray t)
theorem Arr.lt {w : World} {g : Nat} {t : TypeId} {xs : List Value} (h : Arr w g t xs) : g < w.heap.size := (Array.getElem?_eq_some_iff.1 h).1
theorem Arr.cell {w : World} {g : Nat} {t : TypeId} {xs : List Value} (h : Arr w g t xs) {i : Nat} {v : Value} (hi : xs[i]? = some v) : w.cell? ⟨g, i, none⟩ = some v := by
  rw [cell_of_row w g i xs.toArray t (0, 0) h]
  simpa using hi
theorem Arr.word {w : World} {g : Nat} {t : TypeId} {l : List UInt32} (h : Arr w g t (wv l)) {i : Nat} (hi : i < l.length) : w.cell? ⟨g, i, none⟩ = some (.int .u32 (un32 (wd l i))) := h.cell (wv_get l i hi)
theorem Arr.byte {w : World} {g : Nat} {t : TypeId} {l : List UInt8} (h : Arr w g t (bv l)) {i : Nat} (hi : i < l.length) : w.cell? ⟨g, i, none⟩ = some (.int .u8 (un8 l[i])) := h.cell (bv_get l i hi)
theorem Arr.frozen {w : World} {g : Nat} {t : TypeId} {xs : List Value} (h : Arr w g t xs) (i : Nat) : w.frozen? ⟨g, i, none⟩ = false := by
  unfold World.frozen?
  simp [show w.heap[g]? = some (.cells xs.toArray t) from h]
theorem Arr.new (w : World) (t : TypeId) (xs : List Value) : Arr (w.alloc (.cells xs.toArray t)) w.heap.size t xs := heap_alloc_new w _
theorem Arr.new_at (w : World) (t : TypeId) (xs : List Value) (g : Nat) (hg : g = w.heap.size) : Arr (w.alloc (.cells xs.toArray t)) g t xs := by subst hg; exact heap_alloc_new w _
theorem Arr.below {B : Nat} {w w' : World} {g : Nat} {t : TypeId} {xs : List Value} (h : Arr w g t xs) (hb : Below B w w') (hB : g < B) : Arr w' g t xs := (hb.block g hB).trans h
theorem Arr.upd {F : Nat → Prop} {w w' : World} {g : Nat} {t : TypeId} {xs : List Value} (h : Arr w g t xs) (hb : Upd F w w') (hF : ¬ F g) : Arr w' g t xs := (hb.block g h.lt hF).trans h
theorem Arr.alloc {w : World} {g : Nat} {t : TypeId} {xs : List Value} (h : Arr w g t xs) (o : Obj) : Arr (w.alloc o) g t xs := (Below.heap_alloc w o g h.lt).trans h
theorem Arr.drew {w : World} {g : Nat} {t : TypeId} {xs : List Value} (h : Arr w g t xs) : Arr w.drew g t xs := h
theorem Arr.set {w : World} {g : Nat} {t : TypeId} {xs : List Value} (h : Arr w g t xs) (i : Nat) (v : Value) : Arr (w.setCell ⟨g, i, none⟩ v) g t (xs.set i v) := by
  have hlt := h.lt
  have h' : w.heap[g]? = some (.cells xs.toArray t) := h
  have h2 : w.heap[g] = .cells xs.toArray t := (Array.getElem?_eq_some_iff.1 h').2
  unfold Arr World.setCell
  simp [Array.getElem?_modify, h']
theorem Arr.set_other {w : World} {g : Nat} {t : TypeId} {xs : List Value} (h : Arr w g t xs) (p : Addr) (hp : p.block ≠ g) (v : Value) : Arr (w.setCell p v) g t xs :=
  (Below.heap_setCell w p v g (fun e => hp e.symm)).trans h
theorem below_setRow {B : Nat} {w wr : World} (h : Below B w wr) (g : Nat) (cs : Array Value) (hg : B ≤ g) : Below B w (wr.setRow g cs) :=
  h.trans ⟨rfl, rfl, rfl, by simp, fun i hi => setRow_other wr g i cs (by omega)⟩
theorem upd_setRow {F : Nat → Prop} {w wr : World} (h : Upd F w wr) (g : Nat) (cs : Array Value) (hg : g < w.heap.size → F g) : Upd F w (wr.setRow g cs) :=
  ⟨h.os, h.tape, h.output, by have := h.size; simp; omega, fun k hk hn => (setRow_other wr g k cs (fun e => hn (e ▸ hg (e ▸ hk)))).trans (h.block k hk hn)⟩
theorem Arr.setRow {w : World} {g : Nat} {t : TypeId} {xs : List Value} (h : Arr w g t xs) (ys : List Value) : Arr (w.setRow g ys.toArray) g t ys := setRow_heap w g _ _ t _ h
theorem Arr.setRow_other {w : World} {g : Nat} {t : TypeId} {xs : List Value} (h : Arr w g t xs) (g' : Nat) (cs : Array Value) (hg : g ≠ g') : Arr (w.setRow g' cs) g t xs := (Go.setRow_other w g' g cs hg).trans h

end Go.Proofs.Ytjakhemolecbnaa
end

/-
  The walks of slices.Contains and slices.Equal at ints.
-/
section
set_option linter.unusedVariables false
set_option linter.unusedSimpArgs false
namespace Go.Proofs.Ytjakhemolecbnaa
open Go.RowKit

/-- A slice of ints that reads as zs. -/
def RG (w : World) (A : Option Addr) (zs : List Int) : Prop := RC w A (zs.map (Value.int .i64))
theorem RG.below {w w' : World} {A : Option Addr} {l : List Int} (h : RG w A l) (hb : Below w.heap.size w w') : RG w' A l := RC.below h hb
theorem RC.part {w : World} {A : Option Addr} {l : List Value} (h : RC w A l) (h0 : 0 < l.length) :
    ∃ b o, A = some ⟨b, o, none⟩ ∧ ∀ j u, l[j]? = some u → w.cell? ⟨b, o + j, none⟩ = some u := by
  obtain ⟨⟨b, o, sp⟩, e, hc⟩ := h h0
  have hsp : sp = none := by
    have := hc 0 _ (List.getElem?_eq_getElem h0)
    simp only [Addr.add, if_true] at this
    unfold World.cell? at this
    cases sp with
    | none => rfl
    | some s => simp at this; split at this <;> simp at this
  subst hsp
  refine ⟨b, o, e, fun j u hj => ?_⟩
  have := hc j u hj
  rwa [add_off] at this
theorem RG.part {w : World} {A : Option Addr} {l : List Int} (h : RG w A l) (h0 : 0 < l.length) :
    ∃ b o, A = some ⟨b, o, none⟩ ∧ ∀ j (hj : j < l.length), w.cell? ⟨b, o + j, none⟩ = some (.int .i64 l[j]) := by
  obtain ⟨b, o, e, hc⟩ := RC.part h (by simpa using h0)
  exact ⟨b, o, e, fun j hj => hc j _ (by rw [List.getElem?_map, List.getElem?_eq_getElem hj]; rfl)⟩

set_option maxHeartbeats 1000000 in
theorem index_any (A : Option Addr) (n c : Nat) (zs : List Int) (v : Int) (w : World) (hl : zs.length = n) (hn : n ≤ 100000000) (hr : RG w A zs) :
    Calls Try.prog 78 #[.slice A n c, .int .i64 v] w fun e w' => (∃ r : Int, e = .returned (.int .i64 r) ∧ (0 ≤ r ↔ v ∈ zs)) ∧ w = w' := by
  subst hl
  have HR := Lib.hid hr
  clear hr
  go_enter Try.func78, Try.ntmps78
  go_wp2_with fail
  go_loopg [8] zs.length (fun k s8 wr => ∃ i : Nat, i ≤ zs.length ∧ k = zs.length - i ∧ s8 = .int .i64 (i : Int) ∧ (∀ j (h : j < zs.length), j < i → zs[j] ≠ v) ∧ wr = w)
  case atStart => exact ⟨0, Nat.zero_le _, by omega, rfl, fun j _ hj => absurd hj (Nat.not_lt_zero _), rfl⟩
  case round =>
    obtain ⟨i, hi, hk, rfl, hz, rfl⟩ := hrel
    have HK := Lib.hid hk
    have HZ := Lib.hid hz
    clear hk hz
    by_cases hlt : i < zs.length
    · obtain ⟨b, o, rfl, hc⟩ := HR.out.part (by omega)
      have k0 := hc i hlt
      obtain ⟨x, ex⟩ : ∃ x, x = zs[i] := ⟨_, rfl⟩
      rw [← ex] at k0
      have EX := Lib.hid ex
      have HLT := Lib.hid hlt
      have i0 : (0 : Int) ≤ (i : Int) := by omega
      have i1 : (i : Int) < (zs.length : Int) := by omega
      clear hc ex hi
      by_cases hv : v = x
      · have hv1 : (v == x) = true := by simpa using hv
        have HV := Lib.hid hv
        clear hv
        go_wp2_with fail
        go_ret
        exact ⟨⟨_, rfl, fun _ => by rw [HV.out, EX.out]; exact List.getElem_mem hlt, fun _ => by omega⟩, rfl⟩
      · have hv1 : (v == x) = false := by simpa using hv
        have HV := Lib.hid hv
        clear hv
        go_wp2_with fail
        go_roundg (zs.length - (i + 1))
        case measure => have := HK.out; have := HLT.out; omega
        case rel =>
          refine ⟨i + 1, HLT.out, rfl, by go_num, fun j hj hji e => ?_, rfl⟩
          by_cases h : j = i
          · subst h
            exact HV.out (by rw [EX.out, e])
          · exact HZ.out j hj (by omega) e
    · obtain rfl : i = zs.length := by omega
      go_wp2_with fail
      go_ret
      refine ⟨⟨_, rfl, fun h => absurd h (by omega), fun h => ?_⟩, rfl⟩
      obtain ⟨j, hj, e⟩ := List.getElem_of_mem h
      exact absurd e (HZ.out j hj hj)

set_option maxHeartbeats 1000000 in
theorem contains_any (A : Option Addr) (n c : Nat) (zs : List Int) (v : Int) (w : World) (hl : zs.length = n) (hn : n ≤ 100000000) (hr : RG w A zs) :
    Calls Try.prog 55 #[.slice A n c, .int .i64 v] w fun e w' => e = .returned (.bool (decide (v ∈ zs))) ∧ w = w' := by
  have HR := Lib.hid hr
  clear hr
  go_enter Try.func55, Try.ntmps55
  go_wp2_with fail
  refine (index_any A n c zs v w hl hn HR.out).mono ?_
  rintro e w1 ⟨⟨r, rfl, hr⟩, rfl⟩
  by_cases h : v ∈ zs
  · have h1 : 0 ≤ r := hr.2 h
    have hd : decide (v ∈ zs) = true := decide_eq_true h
    have HD := Lib.hid hd
    have HR1 := Lib.hid h1
    clear hr h hd
    go_wp2_with fail
    go_ret
    exact ⟨ret_bool (by rw [HD.out]; first | done | simpa using HR1.out), rfl⟩
  · have h1 : ¬ (0 ≤ r) := fun h2 => h (hr.1 h2)
    have hd : decide (v ∈ zs) = false := decide_eq_false h
    have HD := Lib.hid hd
    have HR1 := Lib.hid h1
    clear hr h hd
    go_wp2_with fail
    go_ret
    exact ⟨ret_bool (by rw [HD.out]; first | done | simpa using HR1.out), rfl⟩

set_option maxHeartbeats 2000000 in
theorem equal_any (A1 A2 : Option Addr) (n1 n2 c1 c2 : Nat) (z1 z2 : List Int) (w : World) (hl1 : z1.length = n1) (hl2 : z2.length = n2) (hn : n1 ≤ 100000000) (hr1 : RG w A1 z1) (hr2 : RG w A2 z2) :
    Calls Try.prog 57 #[.slice A1 n1 c1, .slice A2 n2 c2] w fun e w' => e = .returned (.bool (decide (z1 = z2))) ∧ Below w.heap.size w w' := by
  subst hl1
  subst hl2
  have H1 := Lib.hid hr1
  have H2 := Lib.hid hr2
  clear hr1 hr2
  by_cases hll : z1.length = z2.length
  · obtain ⟨R, eR⟩ : ∃ R, R = decide (z1 = z2) := ⟨_, rfl⟩
    rw [← eR]
    have ER := Lib.hid eR
    have HLL := Lib.hid hll
    rw [← hll]
    clear eR hll
    go_enter Try.func57, Try.ntmps57
    go_wp2_with fail
    go_loopg [13] z1.length (fun k s13 wr => ∃ i : Nat, i ≤ z1.length ∧ k = z1.length - i ∧ s13 = .int .i64 (i : Int) ∧ (∀ j, j < i → z1[j]? = z2[j]?) ∧ Below w.heap.size w wr)
    case atStart => exact ⟨0, Nat.zero_le _, by omega, rfl, fun j hj => absurd hj (Nat.not_lt_zero _), Below.refl _ _⟩
    case round =>
      obtain ⟨i, hi, hk, rfl, hz, hb⟩ := hrel
      have HK := Lib.hid hk
      have HZ := Lib.hid hz
      have HB := Lib.hid hb
      clear hk hz hb
      by_cases hlt : i < z1.length
      · have hlt2 : i < z2.length := by rw [← HLL.out]; exact hlt
        obtain ⟨b1, o1, rfl, hc1⟩ := H1.out.part (by omega)
        obtain ⟨b2, o2, rfl, hc2⟩ := H2.out.part (by omega)
        have k1 := cell_below HB.out (hc1 i hlt)
        have k2 := cell_below HB.out (hc2 i hlt2)
        have g1 := Lib.hid (show z1[i]? = some z1[i] from List.getElem?_eq_getElem hlt)
        have g2 := Lib.hid (show z2[i]? = some z2[i] from List.getElem?_eq_getElem hlt2)
        generalize z1[i] = x1 at *
        generalize z2[i] = x2 at *
        have HLT := Lib.hid hlt
        have i0 : (0 : Int) ≤ (i : Int) := by omega
        have i1 : (i : Int) < (z1.length : Int) := by omega
        clear hc1 hc2 hi hlt2
        by_cases hx : x1 = x2
        · subst hx
          go_wp2_with fail
          go_region
          all_goals
            go_wp2_with fail
            go_roundg (z1.length - (i + 1))
            case measure => have := HK.out; have := HLT.out; omega
            case rel =>
              refine ⟨i + 1, HLT.out, rfl, by go_num, fun j hj => ?_, HB.out.drew⟩
              by_cases h : j = i
              · rw [h, g1.out, g2.out]
              · exact HZ.out j (by omega)
        · have hx1 : (x1 != x2) = true := by simpa using hx
          have HX := Lib.hid hx
          clear hx
          go_wp2_with fail
          go_region
          all_goals
            go_wp2_with fail
            go_ret
            refine ⟨ret_bool ?_, HB.out.drew⟩
            rw [ER.out]
            refine (decide_eq_false fun e => HX.out ?_).symm
            have h1 := g1.out
            rw [e, g2.out] at h1
            exact (Option.some.inj h1).symm
      · obtain rfl : i = z1.length := by omega
        go_wp2_with fail
        go_ret
        refine ⟨ret_bool ?_, HB.out⟩
        rw [ER.out]
        refine (decide_eq_true (List.ext_getElem? fun j => ?_)).symm
        by_cases h : j < z1.length
        · exact HZ.out j h
        · rw [List.getElem?_eq_none (by omega), List.getElem?_eq_none (by rw [← HLL.out]; omega)]
  · have hd : decide (z1 = z2) = false := decide_eq_false fun e => hll (by rw [e])
    rw [hd]
    have hne : ((z1.length : Int) != (z2.length : Int)) = true := by simp; omega
    clear hd hll
    go_enter Try.func57, Try.ntmps57
    go_wp2_with fail
    go_ret
    exact ⟨rfl, Below.refl _ _⟩
end Go.Proofs.Ytjakhemolecbnaa
end
