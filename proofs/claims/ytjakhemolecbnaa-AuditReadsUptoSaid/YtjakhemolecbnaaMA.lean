/-
  The texts Base, ShaPure, Rot, Mem, Arr, Sls, Disk, Padded, Scope, SumPure, WalPure, Wire, Crc, WalFrame, Outline, Wal, Recs of this proof in one: what each proves is said at its head. No conditions beyond those that each theorem says.
-/
import Derived.WalkKit
import Derived.KernelRfl
import Derived.RowKit3
import Derived.Deep.LoopGhost
import Derived.Deep.QuietTactic
import Derived.BigQuiet
import Derived.Deep.Draws
import Derived.Lib.Hide
import Derived.Deep.DeepCutAuto
import Derived.Deep.RegionHeld3
import Derived.WalkLawsBesides
import Derived.WalkSpells
import Derived.Maps.AppendAt
import Derived.Lib.ConvBytes
import Derived.Laws.CopyOwn
import Derived.Deep.RegionLaw
import Derived.Lib.SlBytesConst
import Derived.Deep.MidRow
import Derived.BigRegion
import Derived.ScopeJumps
import Derived.WalkMore
import Derived.Lib.AppendStr
import Derived.OwnWalk
import Derived.Test.YtjakhemolecbnaaProg

/-
  Small lemmas on values, bytes and words that the walks of this seat share.
-/
section
set_option linter.unusedVariables false
set_option linter.unusedSimpArgs false
namespace Go.Proofs.Ytjakhemolecbnaa
open Go.RowKit

/-- A byte, a word as a number: names that simp does not open. -/
def un8 (b : UInt8) : Int := (b.toNat : Int)
def un32 (x : UInt32) : Int := (x.toNat : Int)
theorem wrap64_small {n : Int} (h0 : -9223372036854775808 ≤ n) (h1 : n < 9223372036854775808) : wrap64 n = n := by unfold wrap64; omega
theorem un8_range (b : UInt8) : 0 ≤ un8 b ∧ un8 b < 256 := by unfold un8; have := b.toNat_lt; omega
theorem un32_range (x : UInt32) : 0 ≤ un32 x ∧ un32 x < 4294967296 := by unfold un32; have := x.toNat_lt; omega
theorem un8_inj {a b : UInt8} (h : un8 a = un8 b) : a = b := UInt8.toNat_inj.1 (by unfold un8 at h; omega)
theorem un32_inj {a b : UInt32} (h : un32 a = un32 b) : a = b := UInt32.toNat_inj.1 (by unfold un32 at h; omega)
theorem un8_mod32 (b : UInt8) : un8 b % 4294967296 = un32 b.toUInt32 := by
  have := un8_range b
  unfold un32 un8 at *
  simp
  omega
theorem un8_mod256 (b : UInt8) : un8 b % 256 = un8 b := by have := un8_range b; omega
theorem un32_mod (b : UInt32) : un32 b % 4294967296 = un32 b := by have := un32_range b; omega
theorem wrap64_un8 (b : UInt8) : wrap64 (un8 b) = un8 b := by have := un8_range b; exact wrap64_small (by omega) (by omega)
theorem wrap64_un32 (b : UInt32) : wrap64 (un32 b) = un32 b := by have := un32_range b; exact wrap64_small (by omega) (by omega)

/-- A byte, a word, as the model's value. -/
def B8 (b : UInt8) : Value := .int .u8 (un8 b)
/-- Bytes as cells. -/
def bv (l : List UInt8) : List Value := l.map B8

theorem bv_length (l : List UInt8) : (bv l).length = l.length := by simp [bv]
theorem bv_append (l m : List UInt8) : bv (l ++ m) = bv l ++ bv m := by simp [bv]
theorem bv_get (l : List UInt8) (i : Nat) (h : i < l.length) : (bv l)[i]? = some (B8 l[i]) := by simp [bv, List.getElem?_eq_getElem h]

/-- A slice of bytes that reads as l. -/
def RB (w : World) (A : Option Addr) (l : List UInt8) : Prop :=
  0 < l.length → ∃ ad, A = some ad ∧ ∀ j (h : j < l.length), w.cell? (ad.add j) = some (.int .u8 (un8 l[j]))

theorem RB.at_ {w : World} {A : Option Addr} {l : List UInt8} (h : RB w A l) (i : Nat) (hi : i < l.length) :
    ∃ ad, A = some ad ∧ w.cell? (ad.add i) = some (.int .u8 (un8 l[i])) := by
  obtain ⟨ad, e, hc⟩ := h (by omega)
  exact ⟨ad, e, hc i hi⟩

theorem ofInt_toNat32 (x : UInt32) : BitVec.ofInt 32 (un32 x) = x.toBitVec := by
  apply BitVec.eq_of_toNat_eq
  unfold un32
  rw [BitVec.ofInt_natCast, BitVec.toNat_ofNat]
  have := x.toNat_lt
  rw [Nat.mod_eq_of_lt this]
  rfl
theorem wrap_u32_nat (n : Nat) (h : n < 4294967296) : IntKind.u32.wrap (n : Int) = (n : Int) := by
  rw [IntKind.wrap_u32]; omega
theorem xor32 (x y : UInt32) : bits .xor .u32 (un32 x) (un32 y) = un32 (x ^^^ y) := by
  show IntKind.u32.wrap ((BitVec.ofInt 32 (un32 x) ^^^ BitVec.ofInt 32 (un32 y)).toNat : Int) = _
  rw [ofInt_toNat32, ofInt_toNat32]
  exact wrap_u32_nat _ (x ^^^ y).toNat_lt
theorem and32 (x y : UInt32) : bits .and .u32 (un32 x) (un32 y) = un32 (x &&& y) := by
  show IntKind.u32.wrap ((BitVec.ofInt 32 (un32 x) &&& BitVec.ofInt 32 (un32 y)).toNat : Int) = _
  rw [ofInt_toNat32, ofInt_toNat32]
  exact wrap_u32_nat _ (x &&& y).toNat_lt
theorem or32 (x y : UInt32) : bits .or .u32 (un32 x) (un32 y) = un32 (x ||| y) := by
  show IntKind.u32.wrap ((BitVec.ofInt 32 (un32 x) ||| BitVec.ofInt 32 (un32 y)).toNat : Int) = _
  rw [ofInt_toNat32, ofInt_toNat32]
  exact wrap_u32_nat _ (x ||| y).toNat_lt
theorem ofInt_toNat8 (x : UInt8) : BitVec.ofInt 8 (un8 x) = x.toBitVec := by
  apply BitVec.eq_of_toNat_eq
  unfold un8
  rw [BitVec.ofInt_natCast, BitVec.toNat_ofNat]
  have := x.toNat_lt
  rw [Nat.mod_eq_of_lt this]
  rfl
theorem wrap_u8_nat (n : Nat) (h : n < 256) : IntKind.u8.wrap (n : Int) = (n : Int) := by
  rw [IntKind.wrap_u8]; omega
theorem xor8 (x y : UInt8) : bits .xor .u8 (un8 x) (un8 y) = un8 (x ^^^ y) := by
  show IntKind.u8.wrap ((BitVec.ofInt 8 (un8 x) ^^^ BitVec.ofInt 8 (un8 y)).toNat : Int) = _
  rw [ofInt_toNat8, ofInt_toNat8]
  exact wrap_u8_nat _ (x ^^^ y).toNat_lt
theorem and8 (x y : UInt8) : bits .and .u8 (un8 x) (un8 y) = un8 (x &&& y) := by
  show IntKind.u8.wrap ((BitVec.ofInt 8 (un8 x) &&& BitVec.ofInt 8 (un8 y)).toNat : Int) = _
  rw [ofInt_toNat8, ofInt_toNat8]
  exact wrap_u8_nat _ (x &&& y).toNat_lt

theorem ret_int {k : IntKind} {a b : Int} (h : a = b) : Ending.returned (.int k a) = .returned (.int k b) := by rw [h]
theorem ret_bool {a b : Bool} (h : a = b) : Ending.returned (.bool a) = .returned (.bool b) := by rw [h]

end Go.Proofs.Ytjakhemolecbnaa
end

/-
  SHA-256 as plain functions on lists of words and bytes.
-/
section
set_option linter.unusedVariables false
set_option linter.unusedSimpArgs false
namespace Go.Proofs.Ytjakhemolecbnaa
open Go.RowKit

def shlW (x : UInt32) (s : Nat) : UInt32 := UInt32.ofNat (x.toNat * 2 ^ s)
def shrW (x : UInt32) (s : Nat) : UInt32 := UInt32.ofNat (x.toNat / 2 ^ s)
/-- x turned right by n (1 to 31). -/
def rotr (x : UInt32) (n : Nat) : UInt32 := shlW x (32 - n) ||| shrW x n
theorem un32_shl (x : UInt32) (s : Nat) : un32 (shlW x s) = un32 x * 2 ^ s % 4294967296 := by
  unfold un32 shlW
  rw [show ∀ n : Nat, (UInt32.ofNat n).toNat = n % 4294967296 from fun n => UInt32.toNat_ofNat']
  rw [Int.natCast_emod, Int.natCast_mul, Int.natCast_pow]; rfl
theorem un32_shr (x : UInt32) (s : Nat) : un32 (shrW x s) = un32 x / 2 ^ s := by
  unfold un32 shrW
  rw [show ∀ n : Nat, (UInt32.ofNat n).toNat = n % 4294967296 from fun n => UInt32.toNat_ofNat']
  have h : x.toNat / 2 ^ s ≤ x.toNat := Nat.div_le_self _ _
  have := x.toNat_lt
  rw [Nat.mod_eq_of_lt (by omega)]
  rw [Int.natCast_ediv, Int.natCast_pow]; rfl
theorem un32_add (x y : UInt32) : un32 (x + y) = (un32 x + un32 y) % 4294967296 := by
  unfold un32
  rw [UInt32.toNat_add]
  omega

def shaK : List UInt32 := [0x428a2f98, 0x71374491, 0xb5c0fbcf, 0xe9b5dba5, 0x3956c25b, 0x59f111f1, 0x923f82a4, 0xab1c5ed5, 0xd807aa98, 0x12835b01, 0x243185be, 0x550c7dc3, 0x72be5d74, 0x80deb1fe, 0x9bdc06a7, 0xc19bf174,
  0xe49b69c1, 0xefbe4786, 0x0fc19dc6, 0x240ca1cc, 0x2de92c6f, 0x4a7484aa, 0x5cb0a9dc, 0x76f988da, 0x983e5152, 0xa831c66d, 0xb00327c8, 0xbf597fc7, 0xc6e00bf3, 0xd5a79147, 0x06ca6351, 0x14292967,
  0x27b70a85, 0x2e1b2138, 0x4d2c6dfc, 0x53380d13, 0x650a7354, 0x766a0abb, 0x81c2c92e, 0x92722c85, 0xa2bfe8a1, 0xa81a664b, 0xc24b8b70, 0xc76c51a3, 0xd192e819, 0xd6990624, 0xf40e3585, 0x106aa070,
  0x19a4c116, 0x1e376c08, 0x2748774c, 0x34b0bcb5, 0x391c0cb3, 0x4ed8aa4a, 0x5b9cca4f, 0x682e6ff3, 0x748f82ee, 0x78a5636f, 0x84c87814, 0x8cc70208, 0x90befffa, 0xa4506ceb, 0xbef9a3f7, 0xc67178f2]
def shaH : List UInt32 := [0x6a09e667, 0xbb67ae85, 0x3c6ef372, 0xa54ff53a, 0x510e527f, 0x9b05688c, 0x1f83d9ab, 0x5be0cd19]
/-- The i-th word of a list. -/
def wd (l : List UInt32) (i : Nat) : UInt32 := l.getD i 0
def bt (l : List UInt8) (i : Nat) : UInt8 := l.getD i 0

/-- Four bytes as a word. -/
def be32 (l : List UInt8) (i : Nat) : UInt32 := shlW (bt l i).toUInt32 24 ||| shlW (bt l (i + 1)).toUInt32 16 ||| shlW (bt l (i + 2)).toUInt32 8 ||| (bt l (i + 3)).toUInt32
def sig0 (a : UInt32) : UInt32 := rotr a 7 ^^^ rotr a 18 ^^^ shrW a 3
def sig1 (a : UInt32) : UInt32 := rotr a 17 ^^^ rotr a 19 ^^^ shrW a 10
/-- The first i words of a block's schedule. -/
def sched (b : List UInt8) : Nat → List UInt32
  | 0 => []
  | i + 1 => sched b i ++ [if i < 16 then be32 b (4 * i) else wd (sched b i) (i - 16) + sig0 (wd (sched b i) (i - 15)) + wd (sched b i) (i - 7) + sig1 (wd (sched b i) (i - 2))]
theorem sched_length (b : List UInt8) (i : Nat) : (sched b i).length = i := by
  induction i with
  | zero => rfl
  | succ i ih => simp [sched, ih]

structure St where
  a : UInt32
  b : UInt32
  c : UInt32
  d : UInt32
  e : UInt32
  f : UInt32
  g : UInt32
  h : UInt32
def St.list (s : St) : List UInt32 := [s.a, s.b, s.c, s.d, s.e, s.f, s.g, s.h]
def bigE (e : UInt32) : UInt32 := rotr e 6 ^^^ rotr e 11 ^^^ rotr e 25
def bigA (a : UInt32) : UInt32 := rotr a 2 ^^^ rotr a 13 ^^^ rotr a 22
def choose3 (e f g : UInt32) : UInt32 := (e &&& f) ^^^ ((e ^^^ 0xffffffff) &&& g)
def major (a b c : UInt32) : UInt32 := ((a &&& b) ^^^ (a &&& c)) ^^^ (b &&& c)
def t1Of (s : St) (k w : UInt32) : UInt32 := s.h + bigE s.e + choose3 s.e s.f s.g + k + w
def t2Of (s : St) : UInt32 := bigA s.a + major s.a s.b s.c
def rnd (s : St) (k w : UInt32) : St := ⟨t1Of s k w + t2Of s, s.a, s.b, s.c, s.d + t1Of s k w, s.e, s.f, s.g⟩
def roundsAt (w : List UInt32) (s : St) : Nat → St
  | 0 => s
  | i + 1 => rnd (roundsAt w s i) (wd shaK i) (wd w i)
def addSt (s t : St) : St := ⟨s.a + t.a, s.b + t.b, s.c + t.c, s.d + t.d, s.e + t.e, s.f + t.f, s.g + t.g, s.h + t.h⟩
def compress (s : St) (blk : List UInt8) : St := addSt s (roundsAt (sched blk 64) s 64)
def h0 : St := ⟨0x6a09e667, 0xbb67ae85, 0x3c6ef372, 0xa54ff53a, 0x510e527f, 0x9b05688c, 0x1f83d9ab, 0x5be0cd19⟩
def stAt (p : List UInt8) : Nat → St
  | 0 => h0
  | i + 1 => compress (stAt p i) ((p.drop (64 * i)).take 64)

/-- How many noughts are filled in. -/
def padZ (n : Nat) : Nat := (119 - n % 64) % 64
theorem padZ_done (n : Nat) : (n + 1 + padZ n) % 64 = 56 := by unfold padZ; omega
theorem padZ_not (n j : Nat) (h : j < padZ n) : (n + 1 + j) % 64 ≠ 56 := by unfold padZ at h; omega
theorem padZ_lt (n : Nat) : padZ n < 64 := by unfold padZ; omega
/-- The low byte of n / 2 ^ k. -/
def byteAt (n k : Nat) : UInt8 := UInt8.ofNat (n / 2 ^ k)
/-- The first j of the eight bytes of a number. -/
def lenBytes (n : Nat) (j : Nat) : List UInt8 := (List.range j).map fun i => byteAt n (56 - 8 * i)
def padOf (l : List UInt8) : List UInt8 := l ++ 128 :: List.replicate (padZ l.length) 0 ++ lenBytes (l.length * 8) 8
theorem lenBytes_length (n j : Nat) : (lenBytes n j).length = j := by simp [lenBytes]
theorem padOf_length (l : List UInt8) : (padOf l).length = l.length + 1 + padZ l.length + 8 := by
  simp only [padOf, List.length_append, List.length_cons, List.length_replicate, lenBytes_length]; omega
theorem padOf_mod (l : List UInt8) : (padOf l).length % 64 = 0 := by rw [padOf_length]; have := padZ_done l.length; omega
def be4 (x : UInt32) : List UInt8 := [UInt8.ofNat (x.toNat / 2 ^ 24), UInt8.ofNat (x.toNat / 2 ^ 16), UInt8.ofNat (x.toNat / 2 ^ 8), UInt8.ofNat x.toNat]
def shaOf (l : List UInt8) : List UInt8 := (stAt (padOf l) ((padOf l).length / 64)).list.flatMap be4
theorem shaOf_length (l : List UInt8) : (shaOf l).length = 32 := by simp [shaOf, St.list, be4]

end Go.Proofs.Ytjakhemolecbnaa
end

/-
  The walks of bits.RotateLeft32 and of the reference's turn, at the amounts that SHA-256 names.
-/
section
set_option linter.unusedVariables false
set_option linter.unusedSimpArgs false
namespace Go.Proofs.Ytjakhemolecbnaa
open Go.RowKit

theorem amt_7 : bits .and .u64 (IntKind.u64.wrap (-7)) 31 = 25 := by decide +kernel
theorem shl_7 (x : UInt32) : un32 x * 33554432 % 4294967296 = un32 (shlW x 25) := (un32_shl x 25).symm
theorem shr_7 (x : UInt32) : un32 x / 128 = un32 (shrW x 7) := (un32_shr x 7).symm
section
attribute [local go_sem] amt_7 shl_7 shr_7 or32
set_option maxHeartbeats 1000000 in
theorem rot_7 (x : UInt32) (w : World) : Calls Try.prog 93 #[.int .u32 (un32 x), .int .i64 (-7)] w fun e w' => e = .returned (.int .u32 (un32 (rotr x 7))) ∧ w = w' := by
  go_enter Try.func93, Try.ntmps93
  go_wp2
  go_ret
  exact ⟨rfl, rfl⟩
set_option maxHeartbeats 1000000 in
theorem turn_7 (x : UInt32) (w : World) : Calls Try.prog 87 #[.int .u32 (un32 x), .int .u64 7] w fun e w' => e = .returned (.int .u32 (un32 (rotr x 7))) ∧ w = w' := by
  go_enter Try.func87, Try.ntmps87
  go_wp2
  go_ret
  exact ⟨ret_int (by rw [UInt32.or_comm]; rfl), rfl⟩
end

theorem amt_18 : bits .and .u64 (IntKind.u64.wrap (-18)) 31 = 14 := by decide +kernel
theorem shl_18 (x : UInt32) : un32 x * 16384 % 4294967296 = un32 (shlW x 14) := (un32_shl x 14).symm
theorem shr_18 (x : UInt32) : un32 x / 262144 = un32 (shrW x 18) := (un32_shr x 18).symm
section
attribute [local go_sem] amt_18 shl_18 shr_18 or32
set_option maxHeartbeats 1000000 in
theorem rot_18 (x : UInt32) (w : World) : Calls Try.prog 93 #[.int .u32 (un32 x), .int .i64 (-18)] w fun e w' => e = .returned (.int .u32 (un32 (rotr x 18))) ∧ w = w' := by
  go_enter Try.func93, Try.ntmps93
  go_wp2
  go_ret
  exact ⟨rfl, rfl⟩
set_option maxHeartbeats 1000000 in
theorem turn_18 (x : UInt32) (w : World) : Calls Try.prog 87 #[.int .u32 (un32 x), .int .u64 18] w fun e w' => e = .returned (.int .u32 (un32 (rotr x 18))) ∧ w = w' := by
  go_enter Try.func87, Try.ntmps87
  go_wp2
  go_ret
  exact ⟨ret_int (by rw [UInt32.or_comm]; rfl), rfl⟩
end

theorem amt_17 : bits .and .u64 (IntKind.u64.wrap (-17)) 31 = 15 := by decide +kernel
theorem shl_17 (x : UInt32) : un32 x * 32768 % 4294967296 = un32 (shlW x 15) := (un32_shl x 15).symm
theorem shr_17 (x : UInt32) : un32 x / 131072 = un32 (shrW x 17) := (un32_shr x 17).symm
section
attribute [local go_sem] amt_17 shl_17 shr_17 or32
set_option maxHeartbeats 1000000 in
theorem rot_17 (x : UInt32) (w : World) : Calls Try.prog 93 #[.int .u32 (un32 x), .int .i64 (-17)] w fun e w' => e = .returned (.int .u32 (un32 (rotr x 17))) ∧ w = w' := by
  go_enter Try.func93, Try.ntmps93
  go_wp2
  go_ret
  exact ⟨rfl, rfl⟩
set_option maxHeartbeats 1000000 in
theorem turn_17 (x : UInt32) (w : World) : Calls Try.prog 87 #[.int .u32 (un32 x), .int .u64 17] w fun e w' => e = .returned (.int .u32 (un32 (rotr x 17))) ∧ w = w' := by
  go_enter Try.func87, Try.ntmps87
  go_wp2
  go_ret
  exact ⟨ret_int (by rw [UInt32.or_comm]; rfl), rfl⟩
end

theorem amt_19 : bits .and .u64 (IntKind.u64.wrap (-19)) 31 = 13 := by decide +kernel
theorem shl_19 (x : UInt32) : un32 x * 8192 % 4294967296 = un32 (shlW x 13) := (un32_shl x 13).symm
theorem shr_19 (x : UInt32) : un32 x / 524288 = un32 (shrW x 19) := (un32_shr x 19).symm
section
attribute [local go_sem] amt_19 shl_19 shr_19 or32
set_option maxHeartbeats 1000000 in
theorem rot_19 (x : UInt32) (w : World) : Calls Try.prog 93 #[.int .u32 (un32 x), .int .i64 (-19)] w fun e w' => e = .returned (.int .u32 (un32 (rotr x 19))) ∧ w = w' := by
  go_enter Try.func93, Try.ntmps93
  go_wp2
  go_ret
  exact ⟨rfl, rfl⟩
set_option maxHeartbeats 1000000 in
theorem turn_19 (x : UInt32) (w : World) : Calls Try.prog 87 #[.int .u32 (un32 x), .int .u64 19] w fun e w' => e = .returned (.int .u32 (un32 (rotr x 19))) ∧ w = w' := by
  go_enter Try.func87, Try.ntmps87
  go_wp2
  go_ret
  exact ⟨ret_int (by rw [UInt32.or_comm]; rfl), rfl⟩
end

theorem amt_6 : bits .and .u64 (IntKind.u64.wrap (-6)) 31 = 26 := by decide +kernel
theorem shl_6 (x : UInt32) : un32 x * 67108864 % 4294967296 = un32 (shlW x 26) := (un32_shl x 26).symm
theorem shr_6 (x : UInt32) : un32 x / 64 = un32 (shrW x 6) := (un32_shr x 6).symm
section
attribute [local go_sem] amt_6 shl_6 shr_6 or32
set_option maxHeartbeats 1000000 in
theorem rot_6 (x : UInt32) (w : World) : Calls Try.prog 93 #[.int .u32 (un32 x), .int .i64 (-6)] w fun e w' => e = .returned (.int .u32 (un32 (rotr x 6))) ∧ w = w' := by
  go_enter Try.func93, Try.ntmps93
  go_wp2
  go_ret
  exact ⟨rfl, rfl⟩
set_option maxHeartbeats 1000000 in
theorem turn_6 (x : UInt32) (w : World) : Calls Try.prog 87 #[.int .u32 (un32 x), .int .u64 6] w fun e w' => e = .returned (.int .u32 (un32 (rotr x 6))) ∧ w = w' := by
  go_enter Try.func87, Try.ntmps87
  go_wp2
  go_ret
  exact ⟨ret_int (by rw [UInt32.or_comm]; rfl), rfl⟩
end

theorem amt_11 : bits .and .u64 (IntKind.u64.wrap (-11)) 31 = 21 := by decide +kernel
theorem shl_11 (x : UInt32) : un32 x * 2097152 % 4294967296 = un32 (shlW x 21) := (un32_shl x 21).symm
theorem shr_11 (x : UInt32) : un32 x / 2048 = un32 (shrW x 11) := (un32_shr x 11).symm
section
attribute [local go_sem] amt_11 shl_11 shr_11 or32
set_option maxHeartbeats 1000000 in
theorem rot_11 (x : UInt32) (w : World) : Calls Try.prog 93 #[.int .u32 (un32 x), .int .i64 (-11)] w fun e w' => e = .returned (.int .u32 (un32 (rotr x 11))) ∧ w = w' := by
  go_enter Try.func93, Try.ntmps93
  go_wp2
  go_ret
  exact ⟨rfl, rfl⟩
set_option maxHeartbeats 1000000 in
theorem turn_11 (x : UInt32) (w : World) : Calls Try.prog 87 #[.int .u32 (un32 x), .int .u64 11] w fun e w' => e = .returned (.int .u32 (un32 (rotr x 11))) ∧ w = w' := by
  go_enter Try.func87, Try.ntmps87
  go_wp2
  go_ret
  exact ⟨ret_int (by rw [UInt32.or_comm]; rfl), rfl⟩
end

theorem amt_25 : bits .and .u64 (IntKind.u64.wrap (-25)) 31 = 7 := by decide +kernel
theorem shl_25 (x : UInt32) : un32 x * 128 % 4294967296 = un32 (shlW x 7) := (un32_shl x 7).symm
theorem shr_25 (x : UInt32) : un32 x / 33554432 = un32 (shrW x 25) := (un32_shr x 25).symm
section
attribute [local go_sem] amt_25 shl_25 shr_25 or32
set_option maxHeartbeats 1000000 in
theorem rot_25 (x : UInt32) (w : World) : Calls Try.prog 93 #[.int .u32 (un32 x), .int .i64 (-25)] w fun e w' => e = .returned (.int .u32 (un32 (rotr x 25))) ∧ w = w' := by
  go_enter Try.func93, Try.ntmps93
  go_wp2
  go_ret
  exact ⟨rfl, rfl⟩
set_option maxHeartbeats 1000000 in
theorem turn_25 (x : UInt32) (w : World) : Calls Try.prog 87 #[.int .u32 (un32 x), .int .u64 25] w fun e w' => e = .returned (.int .u32 (un32 (rotr x 25))) ∧ w = w' := by
  go_enter Try.func87, Try.ntmps87
  go_wp2
  go_ret
  exact ⟨ret_int (by rw [UInt32.or_comm]; rfl), rfl⟩
end

theorem amt_2 : bits .and .u64 (IntKind.u64.wrap (-2)) 31 = 30 := by decide +kernel
theorem shl_2 (x : UInt32) : un32 x * 1073741824 % 4294967296 = un32 (shlW x 30) := (un32_shl x 30).symm
theorem shr_2 (x : UInt32) : un32 x / 4 = un32 (shrW x 2) := (un32_shr x 2).symm
section
attribute [local go_sem] amt_2 shl_2 shr_2 or32
set_option maxHeartbeats 1000000 in
theorem rot_2 (x : UInt32) (w : World) : Calls Try.prog 93 #[.int .u32 (un32 x), .int .i64 (-2)] w fun e w' => e = .returned (.int .u32 (un32 (rotr x 2))) ∧ w = w' := by
  go_enter Try.func93, Try.ntmps93
  go_wp2
  go_ret
  exact ⟨rfl, rfl⟩
set_option maxHeartbeats 1000000 in
theorem turn_2 (x : UInt32) (w : World) : Calls Try.prog 87 #[.int .u32 (un32 x), .int .u64 2] w fun e w' => e = .returned (.int .u32 (un32 (rotr x 2))) ∧ w = w' := by
  go_enter Try.func87, Try.ntmps87
  go_wp2
  go_ret
  exact ⟨ret_int (by rw [UInt32.or_comm]; rfl), rfl⟩
end

theorem amt_13 : bits .and .u64 (IntKind.u64.wrap (-13)) 31 = 19 := by decide +kernel
theorem shl_13 (x : UInt32) : un32 x * 524288 % 4294967296 = un32 (shlW x 19) := (un32_shl x 19).symm
theorem shr_13 (x : UInt32) : un32 x / 8192 = un32 (shrW x 13) := (un32_shr x 13).symm
section
attribute [local go_sem] amt_13 shl_13 shr_13 or32
set_option maxHeartbeats 1000000 in
theorem rot_13 (x : UInt32) (w : World) : Calls Try.prog 93 #[.int .u32 (un32 x), .int .i64 (-13)] w fun e w' => e = .returned (.int .u32 (un32 (rotr x 13))) ∧ w = w' := by
  go_enter Try.func93, Try.ntmps93
  go_wp2
  go_ret
  exact ⟨rfl, rfl⟩
set_option maxHeartbeats 1000000 in
theorem turn_13 (x : UInt32) (w : World) : Calls Try.prog 87 #[.int .u32 (un32 x), .int .u64 13] w fun e w' => e = .returned (.int .u32 (un32 (rotr x 13))) ∧ w = w' := by
  go_enter Try.func87, Try.ntmps87
  go_wp2
  go_ret
  exact ⟨ret_int (by rw [UInt32.or_comm]; rfl), rfl⟩
end

theorem amt_22 : bits .and .u64 (IntKind.u64.wrap (-22)) 31 = 10 := by decide +kernel
theorem shl_22 (x : UInt32) : un32 x * 1024 % 4294967296 = un32 (shlW x 10) := (un32_shl x 10).symm
theorem shr_22 (x : UInt32) : un32 x / 4194304 = un32 (shrW x 22) := (un32_shr x 22).symm
section
attribute [local go_sem] amt_22 shl_22 shr_22 or32
set_option maxHeartbeats 1000000 in
theorem rot_22 (x : UInt32) (w : World) : Calls Try.prog 93 #[.int .u32 (un32 x), .int .i64 (-22)] w fun e w' => e = .returned (.int .u32 (un32 (rotr x 22))) ∧ w = w' := by
  go_enter Try.func93, Try.ntmps93
  go_wp2
  go_ret
  exact ⟨rfl, rfl⟩
set_option maxHeartbeats 1000000 in
theorem turn_22 (x : UInt32) (w : World) : Calls Try.prog 87 #[.int .u32 (un32 x), .int .u64 22] w fun e w' => e = .returned (.int .u32 (un32 (rotr x 22))) ∧ w = w' := by
  go_enter Try.func87, Try.ntmps87
  go_wp2
  go_ret
  exact ⟨ret_int (by rw [UInt32.or_comm]; rfl), rfl⟩
end

end Go.Proofs.Ytjakhemolecbnaa
end

/-
  Memory: what a call may have turned; rows that are read; append onto a row of one's own from whatever source; bytes and strings.
-/
section
set_option linter.unusedVariables false
set_option linter.unusedSimpArgs false
namespace Go.Proofs.Ytjakhemolecbnaa
open Go.RowKit

theorem add_plain (g j : Nat) : (⟨g, 0, none⟩ : Addr).add j = ⟨g, j, none⟩ := by unfold Addr.add; split <;> simp_all
theorem add_off (g o j : Nat) : (⟨g, o, none⟩ : Addr).add j = ⟨g, o + j, none⟩ := by unfold Addr.add; split <;> simp_all
theorem add_add (a : Addr) (i j : Nat) : (a.add i).add j = a.add (i + j) := by
  unfold Addr.add
  by_cases h1 : i = 0 <;> by_cases h2 : j = 0 <;> simp [h1, h2, Nat.add_assoc]

/-- Of the old blocks only those in F may have turned. -/
structure Upd (F : Nat → Prop) (w w' : World) : Prop where
  os : w'.os = w.os
  tape : w'.tape = w.tape
  output : w'.output = w.output
  size : w.heap.size ≤ w'.heap.size
  block : ∀ k, k < w.heap.size → ¬ F k → w'.heap[k]? = w.heap[k]?

theorem Upd.refl (F : Nat → Prop) (w : World) : Upd F w w := ⟨rfl, rfl, rfl, Nat.le_refl _, fun _ _ _ => rfl⟩
theorem Upd.mono {F G : Nat → Prop} {w w' : World} (h : Upd F w w') (hFG : ∀ k, k < w.heap.size → F k → G k) : Upd G w w' :=
  ⟨h.os, h.tape, h.output, h.size, fun k hk hn => h.block k hk (fun hf => hn (hFG k hk hf))⟩
/-- What the second step turns is either what the first may have turned, or new. -/
theorem Upd.trans {F G : Nat → Prop} {a b c : World} (h : Upd F a b) (k : Upd G b c) (hG : ∀ i, i < a.heap.size → G i → F i) : Upd F a c :=
  ⟨k.os.trans h.os, k.tape.trans h.tape, k.output.trans h.output, Nat.le_trans h.size k.size,
    fun i hi hn => (k.block i (Nat.lt_of_lt_of_le hi h.size) (fun hg => hn (hG i hi hg))).trans (h.block i hi hn)⟩
theorem Upd.drew {F : Nat → Prop} {a w : World} (h : Upd F a w) : Upd F a w.drew := ⟨h.os, h.tape, h.output, h.size, h.block⟩
theorem Upd.drewN {F : Nat → Prop} {a w : World} (h : Upd F a w) (n : Nat) : Upd F a (w.drewN n) := ⟨h.os, h.tape, h.output, h.size, h.block⟩
theorem Upd.alloc {F : Nat → Prop} {a w : World} (h : Upd F a w) (o : Obj) : Upd F a (w.alloc o) :=
  ⟨h.os, h.tape, h.output, by have := h.size; simp; omega, fun k hk hn => (Below.heap_alloc w o k (Nat.lt_of_lt_of_le hk h.size)).trans (h.block k hk hn)⟩
theorem Upd.setCell {F : Nat → Prop} {a w : World} (h : Upd F a w) {p : Addr} (hp : p.block < a.heap.size → F p.block) (u : Value) : Upd F a (w.setCell p u) :=
  ⟨h.os, h.tape, h.output, by have := h.size; simp [World.setCell]; omega, fun k hk hn => (Below.heap_setCell w p u k (fun e => hn (e ▸ hp (e ▸ hk)))).trans (h.block k hk hn)⟩
theorem Upd.grown {F : Nat → Prop} {a w w' : World} (h : Upd F a w) {row : Option Nat} (hg : w.grownBy w' row) (hr : ∀ k, row = some k → k < a.heap.size → F k) : Upd F a w' :=
  ⟨hg.os.trans h.os, hg.tape.trans h.tape, hg.output.trans h.output, Nat.le_trans h.size hg.size,
    fun k hk hn => (hg.block k (Nat.lt_of_lt_of_le hk h.size) (fun e => hn (hr k e.symm hk))).trans (h.block k hk hn)⟩
theorem Upd.below {F : Nat → Prop} {a w w' : World} (h : Upd F a w) (hb : Below w.heap.size w w') : Upd F a w' :=
  ⟨hb.os.trans h.os, hb.tape.trans h.tape, hb.output.trans h.output, Nat.le_trans h.size hb.size,
    fun k hk hn => (hb.block k (Nat.lt_of_lt_of_le hk h.size)).trans (h.block k hk hn)⟩
theorem Upd.of_below {F : Nat → Prop} {w w' : World} (hb : Below w.heap.size w w') : Upd F w w' := (Upd.refl F w).below hb
theorem Upd.to_below {F : Nat → Prop} {w w' : World} {B : Nat} (h : Upd F w w') (hB : B ≤ w.heap.size) (hF : ∀ k, k < B → ¬ F k) : Below B w w' :=
  ⟨h.os, h.tape, h.output, h.size, fun k hk => h.block k (by omega) (hF k hk)⟩
/-- Behind a Below comes an Upd of blocks from B on. -/
theorem below_upd {F : Nat → Prop} {w0 w w' : World} {B : Nat} (h : Below B w0 w) (hB : B ≤ w.heap.size) (u : Upd F w w') (hF : ∀ k, F k → B ≤ k) : Below B w0 w' :=
  h.trans (u.to_below hB (fun k hk hf => by have := hF k hf; omega))
theorem below_below {B : Nat} {w0 w w' : World} (h : Below B w0 w) (hB : B ≤ w.heap.size) (k : Below w.heap.size w w') : Below B w0 w' :=
  h.trans (k.mono hB)

/-- A slice (its address: A) whose cells read as cs. -/
def RC (w : World) (A : Option Addr) (cs : List Value) : Prop :=
  0 < cs.length → ∃ ad, A = some ad ∧ ∀ j u, cs[j]? = some u → w.cell? (ad.add j) = some u
theorem RC.nil (w : World) (A : Option Addr) : RC w A [] := fun h => absurd h (by simp)
theorem RB.cells {w : World} {A : Option Addr} {l : List UInt8} (h : RB w A l) : RC w A (bv l) := by
  intro h0
  rw [bv_length] at h0
  obtain ⟨ad, e, hc⟩ := h h0
  refine ⟨ad, e, fun j u hj => ?_⟩
  have hl : j < l.length := by
    have := (List.getElem?_eq_some_iff.1 hj).1
    rwa [bv_length] at this
  rw [bv_get l j hl] at hj
  cases hj
  exact hc j hl
theorem RC.bytes {w : World} {A : Option Addr} {l : List UInt8} (h : RC w A (bv l)) : RB w A l := by
  intro h0
  obtain ⟨ad, e, hc⟩ := h (by rw [bv_length]; exact h0)
  exact ⟨ad, e, fun j hj => hc j _ (bv_get l j hj)⟩
theorem RC.step {w w' : World} {A : Option Addr} {cs : List Value} (h : RC w A cs) (hc : ∀ a v, w.cell? a = some v → w'.cell? a = some v) : RC w' A cs := by
  intro h0
  obtain ⟨ad, e, hr⟩ := h h0
  exact ⟨ad, e, fun j u hj => hc _ _ (hr j u hj)⟩
theorem RB_take {w : World} {A : Option Addr} {l : List UInt8} (h : RB w A l) (k : Nat) : RB w A (l.take k) := by
  intro h0
  obtain ⟨ad, e, hc⟩ := h (by simp at h0; omega)
  exact ⟨ad, e, fun j hj => by rw [hc j (by simp at hj; omega)]; simp⟩
theorem cell_below {w w' : World} (hb : Below w.heap.size w w') {a : Addr} {v : Value} (h : w.cell? a = some v) : w'.cell? a = some v :=
  (hb.cell (World.block_lt_of_cell? w a h)).trans h
theorem cell_belowB {B : Nat} {w w' : World} (hb : Below B w w') {a : Addr} (ha : a.block < B) {v : Value} (h : w.cell? a = some v) : w'.cell? a = some v := (hb.cell ha).trans h
theorem RC.below {w w' : World} {A : Option Addr} {cs : List Value} (h : RC w A cs) (hb : Below w.heap.size w w') : RC w' A cs := h.step fun _ _ => cell_below hb
theorem RB.step {w w' : World} {A : Option Addr} {l : List UInt8} (h : RB w A l) (hc : ∀ a v, w.cell? a = some v → w'.cell? a = some v) : RB w' A l := (h.cells.step hc).bytes
theorem RB.below {w w' : World} {A : Option Addr} {l : List UInt8} (h : RB w A l) (hb : Below w.heap.size w w') : RB w' A l := (h.cells.below hb).bytes
theorem RB.nil (w : World) (A : Option Addr) : RB w A [] := fun h => absurd h (by simp)
/-- The slice lies in old memory (below B), or is empty. -/
def InOld (B : Nat) (A : Option Addr) (cs : List Value) : Prop := 0 < cs.length → ∀ ad, A = some ad → ad.block < B
theorem RC.inOld {w : World} {A : Option Addr} {cs : List Value} (h : RC w A cs) : InOld w.heap.size A cs := by
  intro h0 ad e
  obtain ⟨ad', e', hc⟩ := h h0
  rw [e] at e'
  cases e'
  have h2 := hc 0 _ (List.getElem?_eq_getElem h0)
  have h3 := World.block_lt_of_cell? w _ h2
  unfold Addr.add at h3
  simpa using h3
theorem RC.belowB {B : Nat} {w w' : World} {A : Option Addr} {cs : List Value} (h : RC w A cs) (hb : Below B w w') (ho : InOld B A cs) : RC w' A cs := by
  intro h0
  obtain ⟨ad, e, hc⟩ := h h0
  refine ⟨ad, e, fun j u hj => (hb.cell ?_).trans (hc j u hj)⟩
  have := ho h0 ad e
  unfold Addr.add
  split <;> exact this
theorem RC.upd {F : Nat → Prop} {w w' : World} {A : Option Addr} {cs : List Value} (h : RC w A cs) (u : Upd F w w') (ho : 0 < cs.length → ∀ ad, A = some ad → ¬ F ad.block) : RC w' A cs := by
  intro h0
  obtain ⟨ad, e, hc⟩ := h h0
  refine ⟨ad, e, fun j v hj => ?_⟩
  have h1 := hc j v hj
  have hb : (ad.add j).block = ad.block := by unfold Addr.add; split <;> rfl
  have hlt := World.block_lt_of_cell? w _ h1
  exact (World.cell?_of_block (w := w) (u.block _ hlt (by rw [hb]; exact ho h0 ad e))).trans h1

/-- A new block is read. -/
theorem RC_new (W : World) (cs : Array Value) (e : TypeId) : RC (W.alloc (.cells cs e)) (some ⟨W.heap.size, 0, none⟩) cs.toList := by
  intro _
  refine ⟨_, rfl, fun j u hj => ?_⟩
  rw [add_plain, cell_of_row _ _ j cs e (0, 0) (heap_alloc_new W _)]
  simpa using hj
theorem RC_newL (W : World) (l : List Value) (e : TypeId) : RC (W.alloc (.cells l.toArray e)) (some ⟨W.heap.size, 0, none⟩) l := RC_new W l.toArray e
theorem RB_new (W : World) (l : List UInt8) (e : TypeId) : RB (W.alloc (.cells (bv l).toArray e)) (some ⟨W.heap.size, 0, none⟩) l := (RC_newL W (bv l) e).bytes
/-- The like of a block with a mark behind its cells ([]byte of a constant). -/
theorem RC_newM (W : World) (cs : Array Value) (e : TypeId) (fr : Nat × Nat) : RC (W.alloc (.cells cs e fr)) (some ⟨W.heap.size, 0, none⟩) cs.toList := by
  intro _
  refine ⟨_, rfl, fun j u hj => ?_⟩
  rw [add_plain, cell_of_row _ _ j cs e fr (heap_alloc_new W _)]
  simpa using hj
theorem RB_newM (W : World) (l : List UInt8) (e : TypeId) (fr : Nat × Nat) : RB (W.alloc (.cells (bv l).toArray e fr)) (some ⟨W.heap.size, 0, none⟩) l := RC.bytes (by simpa using RC_newM W (bv l).toArray e fr)
/-- The same, the new block's number given. -/
theorem RC_at (W : World) (cs : Array Value) (e : TypeId) (fr : Nat × Nat) (g : Nat) (hg : g = W.heap.size) : RC (W.alloc (.cells cs e fr)) (some ⟨g, 0, none⟩) cs.toList := by
  subst hg; exact RC_newM W cs e fr
theorem RB_at (W : World) (l : List UInt8) (e : TypeId) (fr : Nat × Nat) (g : Nat) (hg : g = W.heap.size) : RB (W.alloc (.cells (bv l).toArray e fr)) (some ⟨g, 0, none⟩) l := by
  subst hg; exact RB_newM W l e fr
/-- What a row of one's own holds is read. -/
theorem own_RC {w : World} {base : Nat} {e : TypeId} {size n : Nat} {A : Option Addr} {m c : Nat} {xs : List Value} (h : w.ownsRow base e size (.slice A m c) n xs) : RC w A xs := by
  intro h0
  rcases h.2 with ⟨h', hn⟩ | ⟨g, cap, cur, h', _⟩
  · rw [hn] at h
    have := h.1
    simp at this
    rw [this] at h0
    simp at h0
  · cases h'
    exact ⟨_, rfl, h.cells (g := g) rfl⟩
theorem own_slice {w : World} {base n : Nat} {e : TypeId} {size : Nat} {v : Value} {xs : List Value} (h : w.ownsRow base e size v n xs) : ∃ A c, v = .slice A n c ∧ n ≤ c := by
  rcases h.2 with ⟨rfl, rfl⟩ | ⟨g, cap, cur, rfl, _, _, hn, _⟩
  · exact ⟨none, 0, rfl, Nat.le_refl _⟩
  · exact ⟨_, cap, rfl, hn⟩
theorem own_form {w : World} {base n : Nat} {e : TypeId} {size : Nat} {v : Value} {xs : List Value} (h : w.ownsRow base e size v n xs) (hn : 0 < n) : ∃ g c, v = .slice (some ⟨g, 0, none⟩) n c ∧ base ≤ g ∧ n ≤ c := by
  rcases h.2 with ⟨rfl, h0⟩ | ⟨g, cap, cur, rfl, hb, _, hn, _⟩
  · omega
  · exact ⟨g, cap, rfl, hb, hn⟩
theorem own_byte {w : World} {base n g c : Nat} {e : TypeId} {l : List UInt8} (h : w.ownsRow base e 1 (.slice (some ⟨g, 0, none⟩) n c) n (bv l)) (k : Nat) (hk : k < l.length) : w.cell? ⟨g, k, none⟩ = some (.int .u8 (un8 l[k])) := by
  have h1 := h.1
  rw [bv_length] at h1
  rw [h.cellAt k (by omega), bv_get l k hk]
  rfl

theorem own_lower {w : World} {base base' n : Nat} {e : TypeId} {size : Nat} {v : Value} {xs : List Value} (h : w.ownsRow base e size v n xs) (hb : base' ≤ base) : w.ownsRow base' e size v n xs := by
  refine ⟨h.1, ?_⟩
  rcases h.2 with h2 | ⟨g, cap, cur, hv, hg, r⟩
  · exact .inl h2
  · exact .inr ⟨g, cap, cur, hv, Nat.le_trans hb hg, r⟩
theorem own_upd {F : Nat → Prop} {w w' : World} {base n : Nat} {e : TypeId} {size : Nat} {v : Value} {xs : List Value} (h : w.ownsRow base e size v n xs) (u : Upd F w w') (hF : ∀ k, v.ownBlock = some k → ¬ F k) : w'.ownsRow base e size v n xs := by
  refine ⟨h.1, ?_⟩
  rcases h.2 with h2 | ⟨g, cap, cur, rfl, hb, hg, r⟩
  · exact .inl h2
  · refine .inr ⟨g, cap, cur, rfl, hb, ?_, r⟩
    rw [u.block g (Array.getElem?_eq_some_iff.1 hg).1 (hF g rfl)]
    exact hg
theorem own_below {w w' : World} {base n : Nat} {e : TypeId} {size : Nat} {v : Value} {xs : List Value} (h : w.ownsRow base e size v n xs) (hb : Below w.heap.size w w') : w'.ownsRow base e size v n xs :=
  own_upd h (Upd.of_below (F := fun _ => False) hb) (fun _ _ => id)
/-- 's[:k]' of a row of one's own. -/
theorem own_take {w : World} {base n : Nat} {e : TypeId} {size : Nat} {A : Option Addr} {c : Nat} {xs : List Value} (h : w.ownsRow base e size (.slice A n c) n xs) (k : Nat) (hk : k ≤ n) : w.ownsRow base e size (.slice A k c) k (xs.take (k * size)) := by
  refine ⟨by rw [List.length_take, h.1]; exact Nat.min_eq_left (Nat.mul_le_mul_right _ hk), ?_⟩
  rcases h.2 with ⟨h', hn⟩ | ⟨g, cap, cur, h', hb, hg, hnc, hcm, hcs, ht⟩
  · cases h'
    exact .inl ⟨by rw [show k = 0 by omega], by omega⟩
  · cases h'
    refine .inr ⟨g, _, cur, rfl, hb, hg, by omega, hcm, hcs, ?_⟩
    rw [← ht, List.take_take, Nat.min_eq_left (Nat.mul_le_mul_right _ hk)]

section
variable {P : Program}

/-- 'append(v, src...)': v a row of one's own, src whatever reads as news (nil, too). -/
theorem run_append_any (w : World) (base : Nat) (t ty e : TypeId) (z : Value) (size bytes : Nat) (ht : P.underlying t = some (.slice e))
    (hinfo : (P.info? e).map (fun i => (i.zero, i.size, i.bytes)) = some (some z, size, bytes)) (hzs : z.cells.size = size) (hsz : 0 < size) (hb0 : 0 < bytes)
    (v : Value) (n : Nat) (xs : List Value) (hown : w.ownsRow base e size v n xs)
    (A : Option Addr) (m c : Nat) (news : List Value) (hl : news.length = m * size) (hr : RC w A news) (h1 : ∀ u ∈ news, u.oneCell' = true)
    (hbytes : (n + m) * bytes ≤ 140737488355328) (hbase : base ≤ w.heap.size) :
    ∃ v' w', (Builtin.append_ #[t, t] ty #[v, .slice A m c]).run P w = .ok v' w' ∧ w'.ownsRow base e size v' (n + m) (xs ++ news) ∧ w.grownBy w' v.ownBlock ∧ (v'.ownBlock = v.ownBlock ∨ v'.ownBlock = some w.heap.size) := by
  obtain ⟨i0, hi, hzz⟩ := Option.map_eq_some_iff.1 hinfo
  simp only [Prod.mk.injEq] at hzz
  obtain ⟨hz0, hz1, hz2⟩ := hzz
  have hlen : n + m ≤ 140737488355328 := Nat.le_trans (Nat.le_mul_of_pos_right _ hb0) hbytes
  by_cases hm : m = 0
  · subst hm
    obtain rfl : news = [] := List.eq_nil_of_length_eq_zero (by simpa using hl)
    rcases A with _ | ad
    · refine ⟨v, w, ?_, by simpa using hown, World.grownBy.refl w _, .inl rfl⟩
      rcases hown.2 with ⟨rfl, hn⟩ | ⟨g, cap, cur, rfl, _, _, hnc, _⟩
      · simp [Builtin.append_, run_underlying ht, sizeOf, typeInfo, hi, Builtin.lenOf, Builtin.firstCells]
      · simp [Builtin.append_, run_underlying ht, sizeOf, typeInfo, hi, Builtin.lenOf, Builtin.firstCells, hnc, storeCells]
    · obtain ⟨v1, w1, hrun, h2, h3, _, h5⟩ := run_append_own_at (P := P) w base t ty e i0 z size bytes ht hi hz0 hz1 hz2 hzs hsz v n xs hown ad 0 c [] (by simp) (fun j u h => by simp at h) (by simp) (by simp only [maxLen]; omega) hbytes hbase
      exact ⟨v1, w1, hrun, h2, h3, h5⟩
  · have hpos : 0 < news.length := by rw [hl]; exact Nat.mul_pos (by omega) hsz
    obtain ⟨ad, rfl, hc⟩ := hr hpos
    obtain ⟨v1, w1, hrun, h2, h3, _, h5⟩ := run_append_own_at (P := P) w base t ty e i0 z size bytes ht hi hz0 hz1 hz2 hzs hsz v n xs hown ad m c news hl hc h1 (by simp only [maxLen]; omega) hbytes hbase
    exact ⟨v1, w1, hrun, h2, h3, h5⟩

/-- The same at the operation, for the walk. -/
theorem append_any {ops : Array Oper} {rest : List Oper} {o : Oper} {a : Act} {Q : Exit → Act → World → Prop} {w : World} (hgd : o.guard = none) (s x : Operand) (t : TypeId)
    (ho : o.op = .call { callee := .builtin .append, args := #[s, x], argTypes := #[t, t] })
    (base : Nat) (e : TypeId) (z : Value) (size bytes : Nat) (ht : P.underlying t = some (.slice e))
    (hinfo : (P.info? e).map (fun i => (i.zero, i.size, i.bytes)) = some (some z, size, bytes)) (hzs : z.cells.size = size) (hsz : 0 < size) (hb0 : 0 < bytes)
    (v : Value) (n : Nat) (xs : List Value) (hs : a.eval s = v) (hown : w.ownsRow base e size v n xs)
    (A : Option Addr) (m c : Nat) (news : List Value) (hx : a.eval x = .slice A m c) (hl : news.length = m * size) (hr : RC w A news) (h1 : ∀ u ∈ news, u.oneCell' = true)
    (hbytes : (n + m) * bytes ≤ 140737488355328) (hbase : base ≤ w.heap.size)
    (h : ∀ v' w', w'.ownsRow base e size v' (n + m) (xs ++ news) → w.grownBy w' v.ownBlock → (v'.ownBlock = v.ownBlock ∨ v'.ownBlock = some w.heap.size) → wpList P ops Q rest (a.put o.dst v') w') :
    wpList P ops Q (o :: rest) a w := by
  refine wpList_plain hgd fun K hK => ?_
  obtain ⟨v', w', hrun, h2, h3, h5⟩ := run_append_any (P := P) w base t o.type e z size bytes ht hinfo hzs hsz hb0 v n xs hown A m c news hl hr h1 hbytes hbase
  unfold Oper.wp execOp
  simp only [ho, resolve, invoke, builtin, Sem.run_bind, Sem.run_pure, Result.andThen_ok, List.map_toArray, List.map_cons, List.map_nil, hs, hx, hrun]
  exact hK _ _ (h v' w' h2 h3 h5)

theorem bv_one (l : List UInt8) : ∀ u ∈ bv l, u.oneCell' = true := by
  intro u hu
  simp only [bv, List.mem_map] at hu
  obtain ⟨q, _, rfl⟩ := hu
  rfl

/-- 'append(v, b...)' of bytes. -/
theorem append_bytes {ops : Array Oper} {rest : List Oper} {o : Oper} {a : Act} {Q : Exit → Act → World → Prop} {w : World} (hgd : o.guard = none) (s x : Operand) (t : TypeId)
    (ho : o.op = .call { callee := .builtin .append, args := #[s, x], argTypes := #[t, t] })
    (base : Nat) (e : TypeId) (ht : P.underlying t = some (.slice e))
    (hinfo : (P.info? e).map (fun i => (i.zero, i.size, i.bytes)) = some (some (.int .u8 0), 1, 1))
    (v : Value) (xs : List UInt8) (hs : a.eval s = v) (hown : w.ownsRow base e 1 v xs.length (bv xs))
    (A : Option Addr) (m c : Nat) (ys : List UInt8) (hx : a.eval x = .slice A m c) (hl : ys.length = m) (hr : RB w A ys)
    (hbytes : xs.length + m ≤ 140737488355328) (hbase : base ≤ w.heap.size)
    (h : ∀ v' w', w'.ownsRow base e 1 v' (xs.length + m) (bv (xs ++ ys)) → w.grownBy w' v.ownBlock → (v'.ownBlock = v.ownBlock ∨ v'.ownBlock = some w.heap.size) → wpList P ops Q rest (a.put o.dst v') w') :
    wpList P ops Q (o :: rest) a w :=
  append_any hgd s x t ho base e (.int .u8 0) 1 1 ht hinfo rfl (by omega) (by omega) v xs.length (bv xs) hs hown A m c (bv ys) hx (by rw [bv_length]; omega) hr.cells (bv_one ys) (by omega) hbase
    (fun v' w' h1 h2 h3 => h v' w' (by rw [bv_append]; exact h1) h2 h3)

/-- The same as one step of a region that draws its order. -/
theorem step_append_any {ops : Array Oper} {o : Oper} {a : Act} {K : Act → World → Prop} {Q : Exit → Act → World → Prop} {E : Prop} {w : World} (hgd : o.guard = none) (s x : Operand) (t : TypeId)
    (ho : o.op = .call { callee := .builtin .append, args := #[s, x], argTypes := #[t, t] })
    (base : Nat) (e : TypeId) (z : Value) (size bytes : Nat) (ht : P.underlying t = some (.slice e))
    (hinfo : (P.info? e).map (fun i => (i.zero, i.size, i.bytes)) = some (some z, size, bytes)) (hzs : z.cells.size = size) (hsz : 0 < size) (hb0 : 0 < bytes)
    (v : Value) (n : Nat) (xs : List Value) (hs : a.eval s = v) (hown : w.ownsRow base e size v n xs)
    (A : Option Addr) (m c : Nat) (news : List Value) (hx : a.eval x = .slice A m c) (hl : news.length = m * size) (hr : RC w A news) (h1 : ∀ u ∈ news, u.oneCell' = true)
    (hbytes : (n + m) * bytes ≤ 140737488355328) (hbase : base ≤ w.heap.size)
    (h : ∀ v' w', w'.ownsRow base e size v' (n + m) (xs ++ news) → w.grownBy w' v.ownBlock → (v'.ownBlock = v.ownBlock ∨ v'.ownBlock = some w.heap.size) → K (a.put o.dst v') w') :
    if Region.wanted o (yielded ops a.tmps) = true then Oper.wp P o a w K Q else E := by
  have hw : Region.wanted o (yielded ops a.tmps) = true := by simp [Region.wanted, hgd]
  rw [if_pos hw]
  obtain ⟨v', w', hrun, h2, h3, h5⟩ := run_append_any (P := P) w base t o.type e z size bytes ht hinfo hzs hsz hb0 v n xs hown A m c news hl hr h1 hbytes hbase
  unfold Oper.wp execOp
  simp only [ho, resolve, invoke, builtin, Sem.run_bind, Sem.run_pure, Result.andThen_ok, List.map_toArray, List.map_cons, List.map_nil, hs, hx, hrun]
  exact h v' w' h2 h3 h5

/-- 'string(b)'. -/
theorem run_string_RB (w : World) (src dst e : TypeId) (hs : P.underlying src = some (.slice e)) (he : P.underlying e = some (.int .u8)) (hd : P.underlying dst = some .string)
    (A : Option Addr) (n c : Nat) (l : List UInt8) (hl : l.length = n) (hr : RB w A l) : (convert src dst (.slice A n c)).run P w = .ok (.string ⟨l.toArray⟩) w := by
  rcases A with _ | ⟨b, off, sp⟩
  · have h0 : l = [] := by
      rcases l with _ | ⟨x, l⟩
      · rfl
      · obtain ⟨ad, h, _⟩ := hr (by simp)
        cases h
    subst h0
    exact run_convert_bytes_nil w src e hs he n c dst hd
  · by_cases h0 : l.length = 0
    · have h0' : l = [] := List.eq_nil_of_length_eq_zero h0
      subst h0'
      obtain rfl : n = 0 := by simpa using hl.symm
      rw [run_convert_bytes_string w src dst e _ 0 c hs he hd]
      have hl : (loadCells ⟨b, off, sp⟩ 0).run P w = .ok ([].map (Value.int .u8)).toArray w := by simp [loadCells, loadCellsFrom]
      rw [run_bytesToString w _ 0 c [] hl]
      rfl
    · obtain ⟨ad, e1, hc⟩ := hr (by omega)
      cases e1
      have hsp : sp = none := by
        have := hc 0 (by omega)
        simp only [Addr.add, if_true] at this
        unfold World.cell? at this
        cases sp with
        | none => rfl
        | some s => simp at this; split at this <;> simp at this
      subst hsp
      have hrun := run_convert_bytes_arg (P := P) w src e hs he b off n c (l.map un8) (by simpa using hl) (fun i hi => by
        have := hc i (by omega)
        rw [add_off] at this
        rw [this]
        simp [List.getD_eq_getElem?_getD, List.getElem?_eq_getElem (show i < l.length by omega)]) dst hd
      rw [hrun]
      have e2 : strOfNums (l.map un8) = ⟨l.toArray⟩ := by
        unfold strOfNums
        congr 1
        congr 1
        rw [List.map_map]
        conv => rhs; rw [← List.map_id l]
        apply List.map_congr_left
        intro x _
        simp [un8]
      rw [e2]

theorem data_length (s : ByteArray) : s.data.toList.length = s.size := by rw [Array.length_toList]; rfl

/-- '[]byte(s)'. -/
theorem bytes_RB (W : World) (e : TypeId) (s : ByteArray) : RB (Lib.bytesWorld W e s) (some ⟨W.heap.size, 0, none⟩) s.data.toList := by
  intro h0
  refine ⟨_, rfl, fun j hj => ?_⟩
  rw [add_plain, Lib.bytesWorld_cell W e s j (by rw [← data_length]; exact hj)]
  have hj' : j < s.data.size := by simpa using hj
  simp [un8, List.getD_eq_getElem?_getD, Array.getElem?_eq_getElem hj']
theorem bytes_below {B : Nat} {w W : World} (h : Below B w W) (hB : B ≤ W.heap.size) (e : TypeId) (s : ByteArray) : Below B w (Lib.bytesWorld W e s) :=
  h.trans ⟨rfl, rfl, rfl, by rw [Lib.bytesWorld_size]; omega, fun i hi => Lib.bytesWorld_at_old W e s i (by omega)⟩
end

/-- An argument's row of bytes (the shape that the row's proof opens). -/
theorem arg_RB {w : World} {a : Option Addr} {len cap : Nat} {zs : List Int}
    (h : (a = none ∧ len = 0 ∧ cap = 0 ∧ zs = []) ∨
      ∃ x, a = some x ∧ len ≤ cap ∧ cap ≤ maxLen ∧ zs.length = cap ∧ (∀ i, i < zs.length → w.cell? (x.add i) = some (.int .u8 (zs.getD i 0))) ∧ ∀ n ∈ zs, (Lit.int .u8 n).wf = true) :
    ∃ l : List UInt8, l.length = len ∧ len ≤ cap ∧ cap ≤ maxLen ∧ RB w a l := by
  rcases h with ⟨rfl, rfl, rfl, rfl⟩ | ⟨x, rfl, hl, hm, hz, hc, hw⟩
  · exact ⟨[], rfl, Nat.le_refl _, by simp [maxLen], RB.nil _ _⟩
  · refine ⟨(zs.take len).map fun n => UInt8.ofNat n.toNat, by simp; omega, hl, hm, fun _ => ⟨x, rfl, fun j hj => ?_⟩⟩
    have hj' : j < zs.length := by simp at hj; omega
    rw [hc j hj']
    have hb := hw _ (List.getElem_mem hj')
    simp [Lit.wf, IntKind.min, IntKind.max, IntKind.signed, IntKind.bits] at hb
    simp [List.getD_eq_getElem?_getD, List.getElem?_eq_getElem hj', un8]
    omega

theorem wf64 {n : Int} (h : (Lit.int .i64 n).wf = true) : -9223372036854775808 ≤ n ∧ n ≤ 9223372036854775807 := by
  simp [Lit.wf, IntKind.min, IntKind.max, IntKind.signed, IntKind.bits] at h
  omega

theorem info8 : (Try.prog.info? 5).map (fun i => (i.zero, i.size, i.bytes)) = some (some (.int .u8 0), 1, 1) := by kernel_rfl

end Go.Proofs.Ytjakhemolecbnaa
end

/-
  Arrays of words that stand in a block of their own.
-/
section
set_option linter.unusedVariables false
set_option linter.unusedSimpArgs false
namespace Go.Proofs.Ytjakhemolecbnaa
open Go.RowKit

def W32 (x : UInt32) : Value := .int .u32 (un32 x)
def wv (l : List UInt32) : List Value := l.map W32
theorem wv_length (l : List UInt32) : (wv l).length = l.length := by simp [wv]
theorem wv_get (l : List UInt32) (i : Nat) (h : i < l.length) : (wv l)[i]? = some (W32 (wd l i)) := by simp [wv, wd, List.getElem?_eq_getElem h]
theorem wv_one (l : List UInt32) : ∀ v ∈ wv l, v.oneCell' = true := by
  intro v hv
  simp only [wv, List.mem_map] at hv
  obtain ⟨q, _, rfl⟩ := hv
  rfl

/-- What is read, at the address's own parts. -/
theorem RB.parts {w : World} {A : Option Addr} {l : List UInt8} (h : RB w A l) (h0 : 0 < l.length) :
    ∃ b o, A = some ⟨b, o, none⟩ ∧ ∀ j (hj : j < l.length), w.cell? ⟨b, o + j, none⟩ = some (.int .u8 (un8 l[j])) := by
  obtain ⟨⟨b, o, sp⟩, e, hc⟩ := h h0
  have hsp : sp = none := by
    have := hc 0 h0
    simp only [Addr.add, if_true] at this
    unfold World.cell? at this
    cases sp with
    | none => rfl
    | some s => simp at this; split at this <;> simp at this
  subst hsp
  exact ⟨b, o, e, fun j hj => by rw [← add_off]; exact hc j hj⟩

/-- Block g holds the array xs. -/
def Arr (w : World) (g : Nat) (t : TypeId) (xs : List Value) : Prop := w.heap[g]? = some (.cells xs.toArray t)
theorem Arr.lt {w : World} {g : Nat} {t : TypeId} {xs : List Value} (h : Arr w g t xs) : g < w.heap.size := (Array.getElem?_eq_some_iff.1 h).1
theorem Arr.cell {w : World} {g : Nat} {t : TypeId} {xs : List Value} (h : Arr w g t xs) {i : Nat} {v : Value} (hi : xs[i]? = some v) : w.cell? ⟨g, i, none⟩ = some v := by
  rw [cell_of_row w g i xs.toArray t (0, 0) h]
  simpa using hi
theorem Arr.word {w : World} {g : Nat} {t : TypeId} {l : List UInt32} (h : Arr w g t (wv l)) {i : Nat} (hi : i < l.length) : w.cell? ⟨g, i, none⟩ = some (.int .u32 (un32 (wd l i))) := h.cell (wv_get l i hi)
theorem Arr.byte {w : World} {g : Nat} {t : TypeId} {l : List UInt8} (h : Arr w g t (bv l)) {i : Nat} (hi : i < l.length) : w.cell? ⟨g, i, none⟩ = some (.int .u8 (un8 l[i])) := h.cell (bv_get l i hi)
theorem Arr.frozen {w : World} {g : Nat} {t : TypeId} {xs : List Value} (h : Arr w g t xs) (i : Nat) : w.frozen? ⟨g, i, none⟩ = false := by
  unfold World.frozen?
  simp [show w.heap[g]? = some (.cells xs.toArray t) from h]
theorem Arr.new (w : World) (t : TypeId) (xs : List Value) : Arr (w.alloc (.cells xs.toArray t)) w.heap.size t xs := heap_alloc_new w _
theorem Arr.new_at (w : World) (t : TypeId) (xs : List Value) (g : Nat) (hg : g = w.heap.size) : Arr (w.alloc (.cells xs.toArray t)) g t xs := by subst hg; exact heap_alloc_new w _
theorem Arr.below {B : Nat} {w w' : World} {g : Nat} {t : TypeId} {xs : List Value} (h : Arr w g t xs) (hb : Below B w w') (hB : g < B) : Arr w' g t xs := (hb.block g hB).trans h
theorem Arr.upd {F : Nat → Prop} {w w' : World} {g : Nat} {t : TypeId} {xs : List Value} (h : Arr w g t xs) (hb : Upd F w w') (hF : ¬ F g) : Arr w' g t xs := (hb.block g h.lt hF).trans h
theorem Arr.alloc {w : World} {g : Nat} {t : TypeId} {xs : List Value} (h : Arr w g t xs) (o : Obj) : Arr (w.alloc o) g t xs := (Below.heap_alloc w o g h.lt).trans h
theorem Arr.drew {w : World} {g : Nat} {t : TypeId} {xs : List Value} (h : Arr w g t xs) : Arr w.drew g t xs := h
theorem Arr.set {w : World} {g : Nat} {t : TypeId} {xs : List Value} (h : Arr w g t xs) (i : Nat) (v : Value) : Arr (w.setCell ⟨g, i, none⟩ v) g t (xs.set i v) := by
  have hlt := h.lt
  have h' : w.heap[g]? = some (.cells xs.toArray t) := h
  have h2 : w.heap[g] = .cells xs.toArray t := (Array.getElem?_eq_some_iff.1 h').2
  unfold Arr World.setCell
  simp [Array.getElem?_modify, h']
theorem Arr.set_other {w : World} {g : Nat} {t : TypeId} {xs : List Value} (h : Arr w g t xs) (p : Addr) (hp : p.block ≠ g) (v : Value) : Arr (w.setCell p v) g t xs :=
  (Below.heap_setCell w p v g (fun e => hp e.symm)).trans h
theorem below_setRow {B : Nat} {w wr : World} (h : Below B w wr) (g : Nat) (cs : Array Value) (hg : B ≤ g) : Below B w (wr.setRow g cs) :=
  h.trans ⟨rfl, rfl, rfl, by simp, fun i hi => setRow_other wr g i cs (by omega)⟩
theorem upd_setRow {F : Nat → Prop} {w wr : World} (h : Upd F w wr) (g : Nat) (cs : Array Value) (hg : g < w.heap.size → F g) : Upd F w (wr.setRow g cs) :=
  ⟨h.os, h.tape, h.output, by have := h.size; simp; omega, fun k hk hn => (setRow_other wr g k cs (fun e => hn (e ▸ hg (e ▸ hk)))).trans (h.block k hk hn)⟩
theorem Arr.setRow {w : World} {g : Nat} {t : TypeId} {xs : List Value} (h : Arr w g t xs) (ys : List Value) : Arr (w.setRow g ys.toArray) g t ys := setRow_heap w g _ _ t _ h
theorem Arr.setRow_other {w : World} {g : Nat} {t : TypeId} {xs : List Value} (h : Arr w g t xs) (g' : Nat) (cs : Array Value) (hg : g ≠ g') : Arr (w.setRow g' cs) g t xs := (Go.setRow_other w g' g cs hg).trans h

end Go.Proofs.Ytjakhemolecbnaa
end

/-
  The walks of slices.Contains and slices.Equal at ints.
-/
section
set_option linter.unusedVariables false
set_option linter.unusedSimpArgs false
namespace Go.Proofs.Ytjakhemolecbnaa
open Go.RowKit

/-- A slice of ints that reads as zs. -/
def RG (w : World) (A : Option Addr) (zs : List Int) : Prop := RC w A (zs.map (Value.int .i64))
theorem RG.below {w w' : World} {A : Option Addr} {l : List Int} (h : RG w A l) (hb : Below w.heap.size w w') : RG w' A l := RC.below h hb
theorem RC.part {w : World} {A : Option Addr} {l : List Value} (h : RC w A l) (h0 : 0 < l.length) :
    ∃ b o, A = some ⟨b, o, none⟩ ∧ ∀ j u, l[j]? = some u → w.cell? ⟨b, o + j, none⟩ = some u := by
  obtain ⟨⟨b, o, sp⟩, e, hc⟩ := h h0
  have hsp : sp = none := by
    have := hc 0 _ (List.getElem?_eq_getElem h0)
    simp only [Addr.add, if_true] at this
    unfold World.cell? at this
    cases sp with
    | none => rfl
    | some s => simp at this; split at this <;> simp at this
  subst hsp
  refine ⟨b, o, e, fun j u hj => ?_⟩
  have := hc j u hj
  rwa [add_off] at this
theorem RG.part {w : World} {A : Option Addr} {l : List Int} (h : RG w A l) (h0 : 0 < l.length) :
    ∃ b o, A = some ⟨b, o, none⟩ ∧ ∀ j (hj : j < l.length), w.cell? ⟨b, o + j, none⟩ = some (.int .i64 l[j]) := by
  obtain ⟨b, o, e, hc⟩ := RC.part h (by simpa using h0)
  exact ⟨b, o, e, fun j hj => hc j _ (by rw [List.getElem?_map, List.getElem?_eq_getElem hj]; rfl)⟩

set_option maxHeartbeats 1000000 in
theorem index_any (A : Option Addr) (n c : Nat) (zs : List Int) (v : Int) (w : World) (hl : zs.length = n) (hn : n ≤ 100000000) (hr : RG w A zs) :
    Calls Try.prog 78 #[.slice A n c, .int .i64 v] w fun e w' => (∃ r : Int, e = .returned (.int .i64 r) ∧ (0 ≤ r ↔ v ∈ zs)) ∧ w = w' := by
  subst hl
  have HR := Lib.hid hr
  clear hr
  go_enter Try.func78, Try.ntmps78
  go_wp2_with fail
  go_loopg [8] zs.length (fun k s8 wr => ∃ i : Nat, i ≤ zs.length ∧ k = zs.length - i ∧ s8 = .int .i64 (i : Int) ∧ (∀ j (h : j < zs.length), j < i → zs[j] ≠ v) ∧ wr = w)
  case atStart => exact ⟨0, Nat.zero_le _, by omega, rfl, fun j _ hj => absurd hj (Nat.not_lt_zero _), rfl⟩
  case round =>
    obtain ⟨i, hi, hk, rfl, hz, rfl⟩ := hrel
    have HK := Lib.hid hk
    have HZ := Lib.hid hz
    clear hk hz
    by_cases hlt : i < zs.length
    · obtain ⟨b, o, rfl, hc⟩ := HR.out.part (by omega)
      have k0 := hc i hlt
      obtain ⟨x, ex⟩ : ∃ x, x = zs[i] := ⟨_, rfl⟩
      rw [← ex] at k0
      have EX := Lib.hid ex
      have HLT := Lib.hid hlt
      have i0 : (0 : Int) ≤ (i : Int) := by omega
      have i1 : (i : Int) < (zs.length : Int) := by omega
      clear hc ex hi
      by_cases hv : v = x
      · have hv1 : (v == x) = true := by simpa using hv
        have HV := Lib.hid hv
        clear hv
        go_wp2_with fail
        go_ret
        exact ⟨⟨_, rfl, fun _ => by rw [HV.out, EX.out]; exact List.getElem_mem hlt, fun _ => by omega⟩, rfl⟩
      · have hv1 : (v == x) = false := by simpa using hv
        have HV := Lib.hid hv
        clear hv
        go_wp2_with fail
        go_roundg (zs.length - (i + 1))
        case measure => have := HK.out; have := HLT.out; omega
        case rel =>
          refine ⟨i + 1, HLT.out, rfl, by go_num, fun j hj hji e => ?_, rfl⟩
          by_cases h : j = i
          · subst h
            exact HV.out (by rw [EX.out, e])
          · exact HZ.out j hj (by omega) e
    · obtain rfl : i = zs.length := by omega
      go_wp2_with fail
      go_ret
      refine ⟨⟨_, rfl, fun h => absurd h (by omega), fun h => ?_⟩, rfl⟩
      obtain ⟨j, hj, e⟩ := List.getElem_of_mem h
      exact absurd e (HZ.out j hj hj)

set_option maxHeartbeats 1000000 in
theorem contains_any (A : Option Addr) (n c : Nat) (zs : List Int) (v : Int) (w : World) (hl : zs.length = n) (hn : n ≤ 100000000) (hr : RG w A zs) :
    Calls Try.prog 55 #[.slice A n c, .int .i64 v] w fun e w' => e = .returned (.bool (decide (v ∈ zs))) ∧ w = w' := by
  have HR := Lib.hid hr
  clear hr
  go_enter Try.func55, Try.ntmps55
  go_wp2_with fail
  refine (index_any A n c zs v w hl hn HR.out).mono ?_
  rintro e w1 ⟨⟨r, rfl, hr⟩, rfl⟩
  by_cases h : v ∈ zs
  · have h1 : 0 ≤ r := hr.2 h
    have hd : decide (v ∈ zs) = true := decide_eq_true h
    have HD := Lib.hid hd
    have HR1 := Lib.hid h1
    clear hr h hd
    go_wp2_with fail
    go_ret
    exact ⟨ret_bool (by rw [HD.out]; first | done | simpa using HR1.out), rfl⟩
  · have h1 : ¬ (0 ≤ r) := fun h2 => h (hr.1 h2)
    have hd : decide (v ∈ zs) = false := decide_eq_false h
    have HD := Lib.hid hd
    have HR1 := Lib.hid h1
    clear hr h hd
    go_wp2_with fail
    go_ret
    exact ⟨ret_bool (by rw [HD.out]; first | done | simpa using HR1.out), rfl⟩

set_option maxHeartbeats 2000000 in
theorem equal_any (A1 A2 : Option Addr) (n1 n2 c1 c2 : Nat) (z1 z2 : List Int) (w : World) (hl1 : z1.length = n1) (hl2 : z2.length = n2) (hn : n1 ≤ 100000000) (hr1 : RG w A1 z1) (hr2 : RG w A2 z2) :
    Calls Try.prog 57 #[.slice A1 n1 c1, .slice A2 n2 c2] w fun e w' => e = .returned (.bool (decide (z1 = z2))) ∧ Below w.heap.size w w' := by
  subst hl1
  subst hl2
  have H1 := Lib.hid hr1
  have H2 := Lib.hid hr2
  clear hr1 hr2
  by_cases hll : z1.length = z2.length
  · obtain ⟨R, eR⟩ : ∃ R, R = decide (z1 = z2) := ⟨_, rfl⟩
    rw [← eR]
    have ER := Lib.hid eR
    have HLL := Lib.hid hll
    rw [← hll]
    clear eR hll
    go_enter Try.func57, Try.ntmps57
    go_wp2_with fail
    go_loopg [13] z1.length (fun k s13 wr => ∃ i : Nat, i ≤ z1.length ∧ k = z1.length - i ∧ s13 = .int .i64 (i : Int) ∧ (∀ j, j < i → z1[j]? = z2[j]?) ∧ Below w.heap.size w wr)
    case atStart => exact ⟨0, Nat.zero_le _, by omega, rfl, fun j hj => absurd hj (Nat.not_lt_zero _), Below.refl _ _⟩
    case round =>
      obtain ⟨i, hi, hk, rfl, hz, hb⟩ := hrel
      have HK := Lib.hid hk
      have HZ := Lib.hid hz
      have HB := Lib.hid hb
      clear hk hz hb
      by_cases hlt : i < z1.length
      · have hlt2 : i < z2.length := by rw [← HLL.out]; exact hlt
        obtain ⟨b1, o1, rfl, hc1⟩ := H1.out.part (by omega)
        obtain ⟨b2, o2, rfl, hc2⟩ := H2.out.part (by omega)
        have k1 := cell_below HB.out (hc1 i hlt)
        have k2 := cell_below HB.out (hc2 i hlt2)
        have g1 := Lib.hid (show z1[i]? = some z1[i] from List.getElem?_eq_getElem hlt)
        have g2 := Lib.hid (show z2[i]? = some z2[i] from List.getElem?_eq_getElem hlt2)
        generalize z1[i] = x1 at *
        generalize z2[i] = x2 at *
        have HLT := Lib.hid hlt
        have i0 : (0 : Int) ≤ (i : Int) := by omega
        have i1 : (i : Int) < (z1.length : Int) := by omega
        clear hc1 hc2 hi hlt2
        by_cases hx : x1 = x2
        · subst hx
          go_wp2_with fail
          go_region
          all_goals
            go_wp2_with fail
            go_roundg (z1.length - (i + 1))
            case measure => have := HK.out; have := HLT.out; omega
            case rel =>
              refine ⟨i + 1, HLT.out, rfl, by go_num, fun j hj => ?_, HB.out.drew⟩
              by_cases h : j = i
              · rw [h, g1.out, g2.out]
              · exact HZ.out j (by omega)
        · have hx1 : (x1 != x2) = true := by simpa using hx
          have HX := Lib.hid hx
          clear hx
          go_wp2_with fail
          go_region
          all_goals
            go_wp2_with fail
            go_ret
            refine ⟨ret_bool ?_, HB.out.drew⟩
            rw [ER.out]
            refine (decide_eq_false fun e => HX.out ?_).symm
            have h1 := g1.out
            rw [e, g2.out] at h1
            exact (Option.some.inj h1).symm
      · obtain rfl : i = z1.length := by omega
        go_wp2_with fail
        go_ret
        refine ⟨ret_bool ?_, HB.out⟩
        rw [ER.out]
        refine (decide_eq_true (List.ext_getElem? fun j => ?_)).symm
        by_cases h : j < z1.length
        · exact HZ.out j h
        · rw [List.getElem?_eq_none (by omega), List.getElem?_eq_none (by rw [← HLL.out]; omega)]
  · have hd : decide (z1 = z2) = false := decide_eq_false fun e => hll (by rw [e])
    rw [hd]
    have hne : ((z1.length : Int) != (z2.length : Int)) = true := by simp; omega
    clear hd hll
    go_enter Try.func57, Try.ntmps57
    go_wp2_with fail
    go_ret
    exact ⟨rfl, Below.refl _ _⟩
end Go.Proofs.Ytjakhemolecbnaa
end

/-
  The walks of package disk: contracts of its functions over one predicate, DiskAt.
-/
section
set_option linter.unusedVariables false
set_option linter.unusedSimpArgs false
namespace Go.Proofs.Ytjakhemolecbnaa
open Go.RowKit

set_option maxHeartbeats 1000000 in
/-- slices.Clone of bytes: a row of its own that reads the same. -/
theorem clone8_any (A : Option Addr) (n c : Nat) (l : List UInt8) (w : World) (hl : l.length = n) (hn : n ≤ 140737488355328) (hr : RB w A l) (hnil : A = none → c = 0) :
    Calls Try.prog 69 #[.slice A n c] w fun e w' => ∃ v, e = .returned v ∧ w'.ownsRow w.heap.size 5 1 v l.length (bv l) ∧ Below w.heap.size w w' := by
  subst hl
  rcases A with _ | ad
  · have h0 : l = [] := by
      rcases l with _ | ⟨x, l⟩
      · rfl
      · obtain ⟨ad, h, _⟩ := hr (by simp)
        cases h
    subst h0
    obtain rfl := hnil rfl
    clear hr hnil
    have he := fun w => Lib.run_eql_slice_nil (P := Try.prog) w 25 5 none 0 0 0 0 Try.underlying25
    go_enter Try.func69, Try.ntmps69
    go_wp2
    go_ret
    exact ⟨_, rfl, World.ownsRow_nil _ _ _ _, Below.refl _ _⟩
  · clear hnil
    have HR := Lib.hid hr
    clear hr
    have he := fun w => Lib.run_eql_slice_nil (P := Try.prog) w 25 5 (some ad) l.length c 0 0 Try.underlying25
    go_enter Try.func69, Try.ntmps69
    go_wp2_with (at_builtin; refine append_bytes rfl _ _ 25 rfl w.heap.size 5 Try.underlying25 info8 _ [] rfl (World.ownsRow_lit w #[] 0 (Nat.le_refl _) (by simp [maxLen]) rfl) _ _ _ l rfl rfl (HR.out.below ((Below.refl _ _).alloc (Nat.le_refl _) _)) ?c1 ?c2 ?_)
    case c1 => simp; omega
    case c2 => simp
    intro v w1 ho hg hat
    have HO := Lib.hid ho
    have HG := Lib.hid hg
    clear ho hg hat
    go_wp2
    go_ret
    exact ⟨_, rfl, by simpa using HO.out, ((Below.refl _ _).alloc (Nat.le_refl _) _).grown HG.out (by simp) (fun k hk => by simp [Value.ownBlock] at hk; omega)⟩

theorem un8_add (x : UInt8) (k : Int) : ∃ y : UInt8, (un8 x + k) % 256 = un8 y := by
  refine ⟨UInt8.ofNat ((un8 x + k) % 256).toNat, ?_⟩
  unfold un8
  simp
  omega
/-- A store of a byte into a row of one's own. -/
theorem own_store {w : World} {B n g c : Nat} {l : List UInt8} {e : TypeId} (h : w.ownsRow B e 1 (.slice (some ⟨g, 0, none⟩) n c) n (bv l)) (k : Nat) (y : UInt8) :
    (w.setCell ⟨g, k, none⟩ (.int .u8 (un8 y))).ownsRow B e 1 (.slice (some ⟨g, 0, none⟩) n c) n (bv (l.set k y)) := by
  have hst := (h.stored k (.int .u8 (un8 y))).1
  rwa [show (bv l).set k (.int .u8 (un8 y)) = bv (l.set k y) by simp [bv, List.map_set, B8]] at hst

namespace DiskAt
variable {w w' : World} {B p : Nat} {v : Value} {b : List UInt8} {safe : Nat}
/-- The blocks that a disk's calls may turn. -/
def foot (p : Nat) (v : Value) (k : Nat) : Prop := k = p ∨ v.ownBlock = some k
end DiskAt

theorem setCell_at {w : World} {p j : Nat} {cs : Array Value} {t : TypeId} {fr : Nat × Nat} (h : w.heap[p]? = some (.cells cs t fr)) (u : Value) : (w.setCell ⟨p, j, none⟩ u).heap[p]? = some (.cells (cs.setIfInBounds j u) t fr) := by
  simp [World.setCell, Array.getElem?_modify, h]
theorem own_setCell {w : World} {p j : Nat} {base n : Nat} {e : TypeId} {size : Nat} {v : Value} {xs : List Value} (h : w.ownsRow base e size v n xs) (hne : v.ownBlock ≠ some p) (u : Value) : (w.setCell ⟨p, j, none⟩ u).ownsRow base e size v n xs :=
  own_upd h ((Upd.refl (fun k => k = p) w).setCell (fun _ => rfl) u) (fun k hk e => hne (by rw [hk, e]))

theorem own_cut {w : World} {p j i B n : Nat} {e : TypeId} {A : Option Addr} {c : Nat} {b : List UInt8} (h : w.ownsRow B e 1 (.slice A b.length c) b.length (bv b)) (hne : (Value.slice A b.length c).ownBlock ≠ some p) (hn : n ≤ b.length) (u u' : Value) :
    ((w.setCell ⟨p, i, none⟩ u).setCell ⟨p, j, none⟩ u').ownsRow B e 1 (.slice A n c) (b.take n).length (bv (b.take n)) := by
  have h1 := own_take h n hn
  have hne' : (Value.slice A n c).ownBlock ≠ some p := by cases A <;> exact hne
  have h2 := own_setCell (own_setCell h1 hne' u (j := i)) hne' u' (j := j)
  have e1 : (b.take n).length = n := by rw [List.length_take]; omega
  have e2 : bv (b.take n) = (bv b).take (n * 1) := by simp [bv]
  rw [e1, e2]
  exact h2

/-- What a crash leaves. -/
def crashLen (b : List UInt8) (safe : Nat) (keep : Int) : Nat := safe + min keep.toNat (b.length - safe)
theorem crashLen_le (b : List UInt8) (safe : Nat) (keep : Int) (h : safe ≤ b.length) : crashLen b safe keep ≤ b.length := by unfold crashLen; omega

end Go.Proofs.Ytjakhemolecbnaa
end

/-
  The walk of sum.padded.
-/
section
set_option linter.unusedVariables false
set_option linter.unusedSimpArgs false
namespace Go.Proofs.Ytjakhemolecbnaa
open Go.RowKit

/-- Bytes, the mark, and j noughts. -/
def padA (l : List UInt8) (j : Nat) : List UInt8 := l ++ 128 :: List.replicate j 0
theorem padA_length (l : List UInt8) (j : Nat) : (padA l j).length = l.length + 1 + j := by simp [padA]; omega
theorem padA_zero (l : List UInt8) : padA l 0 = l ++ [128] := rfl
theorem padA_snoc (l : List UInt8) (j : Nat) : padA l (j + 1) = padA l j ++ [0] := by simp [padA, List.replicate_succ']
theorem padOf_eq (l : List UInt8) : padOf l = padA l (padZ l.length) ++ lenBytes (l.length * 8) 8 := by simp [padOf, padA]
theorem lenBytes_snoc (n i : Nat) : lenBytes n (i + 1) = lenBytes n i ++ [byteAt n (56 - 8 * i)] := by simp [lenBytes, List.range_succ]
theorem u64_len (n : Nat) (h : n ≤ 100000000) : IntKind.u64.wrap (n : Int) = (n : Int) := by
  rw [IntKind.wrap_u64]; omega
theorem byteAt_un8 (n k : Nat) : un8 (byteAt n k) = ((n / 2 ^ k % 256 : Nat) : Int) := by
  unfold un8 byteAt
  rw [show ∀ m : Nat, (UInt8.ofNat m).toNat = m % 256 from fun m => UInt8.toNat_ofNat']

set_option maxHeartbeats 2000000 in
theorem padded_any (A : Option Addr) (n c : Nat) (l : List UInt8) (w : World) (hl : l.length = n) (hn : n ≤ 100000000) (hr : RB w A l) :
    Calls Try.prog 90 #[.slice A n c] w fun e w' => ∃ v, e = .returned v ∧ w'.ownsRow w.heap.size 5 1 v (padOf l).length (bv (padOf l)) ∧ Below w.heap.size w w' := by
  subst hl
  have HR := Lib.hid hr
  clear hr
  go_enter Try.func90, Try.ntmps90
  go_wp2_with (at_builtin; refine append_bytes rfl _ _ 25 rfl w.heap.size 5 Try.underlying25 info8 _ [] rfl (World.ownsRow_lit w #[] 0 (Nat.le_refl _) (by simp [maxLen]) rfl) _ _ _ l rfl rfl (HR.out.below ((Below.refl _ _).alloc (Nat.le_refl _) _)) ?c1 ?c2 ?_)
  case c1 => simp; omega
  case c2 => simp
  intro v w1 ho hg hat
  have ho' : w1.ownsRow w.heap.size 5 1 v l.length (bv l) := by simpa using ho
  have HO := Lib.hid ho'
  have hb1 : Below w.heap.size w w1 := ((Below.refl _ _).alloc (Nat.le_refl _) _).grown hg (by simp) (fun k hk => by simp [Value.ownBlock] at hk; omega)
  have HB := Lib.hid hb1
  clear hb1
  clear ho ho' hg hat
  go_wp2_with (at_builtin; refine append_bytes rfl _ _ 25 rfl w.heap.size 5 Try.underlying25 info8 _ l rfl (HO.out.alloc _) _ 1 _ [128] rfl rfl (RB_new w1 [128] 5) ?c1 ?c2 ?_)
  case c1 => omega
  case c2 => have := HB.out.size; simp; omega
  intro v2 w2 ho2 hg2 hat2
  have ho2' : w2.ownsRow w.heap.size 5 1 v2 (padA l 0).length (bv (padA l 0)) := by rw [padA_zero, List.length_append]; exact ho2
  have HO2 := Lib.hid ho2'
  have hb2 : Below w.heap.size w w2 := (HB.out.alloc HB.out.size _).grown hg2 (by have := HB.out.size; simp; omega) (fun k hk => (World.ownsRow.lt HO.out k hk).1)
  have HB2 := Lib.hid hb2
  clear ho2 ho2' hg2 hat2 hb2 HO HB
  go_wp2_with fail
  go_loopg [3] (padZ l.length) (fun k s3 wr => ∃ j : Nat, j ≤ padZ l.length ∧ k = padZ l.length - j ∧ wr.ownsRow w.heap.size 5 1 s3 (padA l j).length (bv (padA l j)) ∧ Below w.heap.size w wr)
  case atStart => exact ⟨0, Nat.zero_le _, by omega, HO2.out, HB2.out⟩
  case round =>
    obtain ⟨j, hj, hk, hown, hb⟩ := hrel
    have hp64 := padZ_lt l.length
    clear HO2 HB2 hp64
    obtain ⟨A3, c3, rfl, _⟩ := own_slice hown
    by_cases hlt : j < padZ l.length
    · have hne : (((padA l j).length : Int) % 64 != 56) = true := by
        rw [padA_length, bne_iff_ne]; have := padZ_not l.length j hlt; omega
      have hlen : (padA l j).length ≤ 100000065 := by rw [padA_length]; have := padZ_lt l.length; omega
      have HK := Lib.hid hk
      have HO := Lib.hid hown
      have HB := Lib.hid hb
      have HLT := Lib.hid hlt
      clear hk hown hb hlt
      go_wp2_with (at_builtin; refine append_bytes rfl _ _ 25 rfl w.heap.size 5 Try.underlying25 info8 _ (padA l j) rfl (HO.out.alloc _) _ 1 _ [0] rfl rfl (RB_new wr [0] 5) ?c1 ?c2 ?_)
      case c1 => omega
      case c2 => have := HB.out.size; simp; omega
      intro v3 w3 ho3 hg3 _
      have hb3 : Below w.heap.size w w3 := (HB.out.alloc HB.out.size _).grown hg3 (by have := HB.out.size; simp; omega) (fun k hk => (World.ownsRow.lt HO.out k hk).1)
      have HO3 := Lib.hid ho3
      have HB3 := Lib.hid hb3
      clear ho3 hg3 hb3
      go_wp2_with fail
      go_roundg (padZ l.length - (j + 1))
      case measure => have := HK.out; have := HLT.out; omega
      case rel =>
        refine ⟨j + 1, HLT.out, rfl, ?_, HB3.out⟩
        rw [padA_snoc, List.length_append]; exact HO3.out
    · obtain rfl : j = padZ l.length := by omega
      have heq : (((padA l (padZ l.length)).length : Int) % 64 != 56) = false := by
        rw [padA_length, bne_eq_false_iff_eq]; have := padZ_done l.length; omega
      have hlen : (padA l (padZ l.length)).length ≤ 100000065 := by rw [padA_length]; have := padZ_lt l.length; omega
      have HP := Lib.hid (padOf_eq l)
      generalize padA l (padZ l.length) = la at *
      have HO := Lib.hid hown
      have HB := Lib.hid hb
      clear hown hb hk hj hlt
      have hu := u64_len l.length hn
      go_wp2_with fail
      go_loopg [3, 5] 9 (fun k s3 s5 wr => ∃ i : Nat, i ≤ 8 ∧ k = 9 - i ∧ (∃ z : Int, z = 56 - 8 * (i : Int) ∧ s5 = .int .i64 z) ∧ wr.ownsRow w.heap.size 5 1 s3 (la ++ lenBytes (l.length * 8) i).length (bv (la ++ lenBytes (l.length * 8) i)) ∧ Below w.heap.size w wr)
      case atStart => exact ⟨0, Nat.zero_le _, by omega, ⟨56, by omega, rfl⟩, by rw [show lenBytes (l.length * 8) 0 = [] from rfl, List.append_nil]; exact HO.out, HB.out⟩
      case round =>
        obtain ⟨i, hi, hk, ⟨z, hz, rfl⟩, hown, hb⟩ := hrel
        clear HO HB
        have hlb : (lenBytes (l.length * 8) i).length = i := lenBytes_length _ _
        have HK := Lib.hid hk
        have HO := Lib.hid hown
        have HB := Lib.hid hb
        clear hk hown hb
        by_cases hlt : i < 8
        · have hz0 : 0 ≤ z := by omega
          have hz1 : z ≤ 56 := by omega
          have hB : (l.length : Int) * 8 / 2 ^ z.toNat % 256 = un8 (byteAt (l.length * 8) (56 - 8 * i)) := by
            rw [byteAt_un8, show z.toNat = 56 - 8 * i by omega, Int.natCast_emod, Int.natCast_ediv, Int.natCast_pow, Int.natCast_mul]
            rfl
          have HS := Lib.hid (lenBytes_snoc (l.length * 8) i)
          have HZ := Lib.hid hz
          have HLT := Lib.hid hlt
          have HI := Lib.hid hi
          clear hz hlt hi
          generalize lenBytes (l.length * 8) i = lb at *
          generalize byteAt (l.length * 8) (56 - 8 * i) = bb at *
          have HLB := Lib.hid hlb
          go_wp2_with (at_builtin; refine append_bytes rfl _ _ 25 rfl w.heap.size 5 Try.underlying25 info8 _ (la ++ lb) rfl (HO.out.alloc _) _ 1 _ [bb] rfl rfl (RB_new wr [bb] 5) ?c1 ?c2 ?_)
          case c1 => have := HI.out; simp; omega
          case c2 => have := HB.out.size; simp; omega
          intro v3 w3 ho3 hg3 _
          have hb3 : Below w.heap.size w w3 := (HB.out.alloc HB.out.size _).grown hg3 (by have := HB.out.size; simp; omega) (fun k hk => (World.ownsRow.lt HO.out k hk).1)
          have HO3 := Lib.hid ho3
          have HB3 := Lib.hid hb3
          clear ho3 hg3 hb3
          go_wp2_with fail
          go_roundg (9 - (i + 1))
          case measure => have := HK.out; have := HLT.out; omega
          case rel =>
            refine ⟨i + 1, HLT.out, rfl, ⟨_, ?_, rfl⟩, ?_, HB3.out⟩
            · have := HZ.out; omega
            · have := HLB.out; rw [HS.out, show (la ++ (lb ++ [bb])).length = la.length + i + 1 by simp; omega]; exact HO3.out
        · obtain rfl : i = 8 := by omega
          obtain rfl : z = -8 := by omega
          rw [← HP.out] at HO
          clear hlb
          go_wp2_with fail
          go_ret
          exact ⟨_, rfl, HO.out, HB.out⟩

end Go.Proofs.Ytjakhemolecbnaa
end

/-
  A loop made by a label and a goto: what holds at the label is shown once.
-/
section
set_option linter.unusedVariables false
set_option linter.unusedSimpArgs false
namespace Go.Proofs.Ytjakhemolecbnaa
open Go.RowKit

def intOf : Value → Int | .int _ q => q | _ => 0

theorem wp_scope_loop {P : Program} {a : Act} {w : World} {Q : Exit → Act → World → Prop} {c X : Code} (l : Nat) (J : Act → World → Prop) (μ : Act → World → Nat) (hf : findLabel c l = some (Code.skip.seq X))
    (pass : ∀ a w, J a w → X.wp P (Exit.jump l (fun a' w' => J a' w' ∧ μ a' w' < μ a w) Q) a w)
    (first : (∀ a w, J a w → X.wp P (Exit.jump l J Q) a w) → c.wp P (Exit.jump l J Q) a w) : (Code.scope c).wp P Q a w := by
  refine wp_scope_jumps l J μ hf (first fun a w hJ => wp_mono (pass a w hJ) fun e a' w' h => ?_) (fun a w hJ => wp_seq (wp_skip (pass a w hJ)))
  cases e with
  | goto l' => exact ⟨h.1, h.2.1⟩
  | normal => exact h
  | exit _ => exact h
  | ret => exact h
  | panic _ => exact h
  | outgrown => exact h

end Go.Proofs.Ytjakhemolecbnaa
end

/-
  The CRC as a plain function; what is turned in one byte turns it.
-/
section
set_option linter.unusedVariables false
set_option linter.unusedSimpArgs false
namespace Go.Proofs.Ytjakhemolecbnaa

def crcBit (c : UInt32) : UInt32 := if c &&& 1 = 1 then (c >>> 1) ^^^ 0xedb88320 else c >>> 1
def crcByte (c : UInt32) (x : UInt8) : UInt32 := crcBit (crcBit (crcBit (crcBit (crcBit (crcBit (crcBit (crcBit (c ^^^ x.toUInt32))))))))
def crcFold (l : List UInt8) (c : UInt32) : UInt32 := l.foldl crcByte c
def crcOf (l : List UInt8) : UInt32 := crcFold l 0xffffffff ^^^ 0xffffffff

theorem and_one_nat (c : UInt32) : (c &&& 1 = 1) ↔ c.toNat % 2 = 1 := by
  rw [← UInt32.toNat_inj, UInt32.toNat_and]
  show c.toNat &&& 1 = 1 ↔ _
  rw [Nat.and_one_is_mod]

theorem shr_one_nat (c : UInt32) : (c >>> 1).toNat = c.toNat / 2 := by
  rw [UInt32.toNat_shiftRight]
  show c.toNat >>> 1 = _
  rw [Nat.shiftRight_succ, Nat.shiftRight_zero]

theorem crcBit_nat (c : UInt32) : (crcBit c).toNat = if c.toNat % 2 = 1 then (c.toNat / 2) ^^^ 0xedb88320 else c.toNat / 2 := by
  unfold crcBit
  by_cases h : c &&& 1 = 1
  · rw [if_pos h, if_pos ((and_one_nat c).1 h), UInt32.toNat_xor, shr_one_nat]; rfl
  · rw [if_neg h, if_neg (fun h' => h ((and_one_nat c).2 h')), shr_one_nat]

theorem top_of_half (n : Nat) (h : n < 4294967296) : (n / 2).testBit 31 = false :=
  Nat.testBit_lt_two_pow (by have : (2 : Nat) ^ 31 = 2147483648 := by decide
                             omega)

theorem crcBit_inj {a b : UInt32} (h : crcBit a = crcBit b) : a = b := by
  have hn : (crcBit a).toNat = (crcBit b).toNat := by rw [h]
  rw [crcBit_nat, crcBit_nat] at hn
  have ha := a.toNat_lt
  have hb := b.toNat_lt
  apply UInt32.toNat_inj.1
  have ht : Nat.testBit 0xedb88320 31 = true := by decide
  by_cases pa : a.toNat % 2 = 1 <;> by_cases pb : b.toNat % 2 = 1
  · rw [if_pos pa, if_pos pb] at hn
    have : a.toNat / 2 = b.toNat / 2 := by
      have h2 := congrArg (· ^^^ 0xedb88320) hn
      simpa [Nat.xor_assoc] using h2
    omega
  · rw [if_pos pa, if_neg pb] at hn
    have h2 := congrArg (fun n => Nat.testBit n 31) hn
    simp only [Nat.testBit_xor, top_of_half _ ha, top_of_half _ hb, ht] at h2
    cases h2
  · rw [if_neg pa, if_pos pb] at hn
    have h2 := congrArg (fun n => Nat.testBit n 31) hn
    simp only [Nat.testBit_xor, top_of_half _ ha, top_of_half _ hb, ht] at h2
    cases h2
  · rw [if_neg pa, if_neg pb] at hn
    omega

theorem xor_right_cancel32 {a b x : UInt32} (h : a ^^^ x = b ^^^ x) : a = b := by
  have h2 := congrArg (· ^^^ x) h
  simpa [UInt32.xor_assoc] using h2
theorem xor_left_cancel32 {a b x : UInt32} (h : x ^^^ a = x ^^^ b) : a = b := by
  rw [UInt32.xor_comm x a, UInt32.xor_comm x b] at h
  exact xor_right_cancel32 h

theorem crc8_inj {a b : UInt32} (h : crcBit (crcBit (crcBit (crcBit (crcBit (crcBit (crcBit (crcBit a))))))) = crcBit (crcBit (crcBit (crcBit (crcBit (crcBit (crcBit (crcBit b)))))))) : a = b :=
  crcBit_inj (crcBit_inj (crcBit_inj (crcBit_inj (crcBit_inj (crcBit_inj (crcBit_inj (crcBit_inj h)))))))

theorem crcByte_inj {a b : UInt32} {x : UInt8} (h : crcByte a x = crcByte b x) : a = b := xor_right_cancel32 (crc8_inj h)
theorem crcByte_byte {a : UInt32} {x y : UInt8} (h : crcByte a x = crcByte a y) : x = y := by
  have h2 : x.toUInt32 = y.toUInt32 := xor_left_cancel32 (crc8_inj h)
  have h3 := congrArg UInt32.toNat h2
  simp at h3
  exact UInt8.toNat_inj.1 h3

theorem crcFold_inj (l : List UInt8) : ∀ {a b : UInt32}, crcFold l a = crcFold l b → a = b := by
  induction l with
  | nil => intro a b h; exact h
  | cons x l ih => intro a b h; exact crcByte_inj (ih h)

theorem crcFold_append (l m : List UInt8) (c : UInt32) : crcFold (l ++ m) c = crcFold m (crcFold l c) := by simp [crcFold]
theorem crcFold_cons (x : UInt8) (m : List UInt8) (c : UInt32) : crcFold (x :: m) c = crcFold m (crcByte c x) := rfl

/-- One byte turned turns the CRC. -/
theorem crcOf_turned (p s : List UInt8) (x y : UInt8) (h : x ≠ y) : crcOf (p ++ x :: s) ≠ crcOf (p ++ y :: s) := by
  intro e
  have e2 := xor_right_cancel32 e
  rw [crcFold_append, crcFold_append, crcFold_cons, crcFold_cons] at e2
  exact h (crcByte_byte (crcFold_inj s e2))

theorem crcOf_set (l : List UInt8) (k : Nat) (hk : k < l.length) (y : UInt8) (h : l[k] ≠ y) : crcOf l ≠ crcOf (l.set k y) := by
  have e1 : l = l.take k ++ l[k] :: l.drop (k + 1) := by simp
  have e2 : l.set k y = l.take k ++ y :: l.drop (k + 1) := by rw [List.set_eq_take_append_cons_drop, if_pos hk]
  rw [e2]
  conv => lhs; rw [e1]
  exact crcOf_turned _ _ _ _ h

-- digits
def hexDig (n : Nat) : UInt8 := [48, 49, 50, 51, 52, 53, 54, 55, 56, 57, 97, 98, 99, 100, 101, 102].getD n 0
def hexByte (x : UInt8) : List UInt8 := [hexDig (x.toNat / 16), hexDig (x.toNat % 16)]
def hexOf (l : List UInt8) : List UInt8 := l.flatMap hexByte

theorem hexOf_append (l m : List UInt8) : hexOf (l ++ m) = hexOf l ++ hexOf m := by simp [hexOf]
theorem hexOf_length (l : List UInt8) : (hexOf l).length = 2 * l.length := by
  induction l with
  | nil => rfl
  | cons x l ih => simp only [hexOf, List.flatMap_cons, List.length_append, List.length_cons] at ih ⊢; rw [ih]; simp [hexByte]; omega
theorem hexDig_inj {a b : Nat} (ha : a < 16) (hb : b < 16) (h : hexDig a = hexDig b) : a = b := by
  have key : ∀ a : Fin 16, ∀ b : Fin 16, hexDig a.1 = hexDig b.1 → a = b := by decide
  have := key ⟨a, ha⟩ ⟨b, hb⟩ h
  exact congrArg Fin.val this
theorem hexByte_inj {x y : UInt8} (h : hexByte x = hexByte y) : x = y := by
  have hx := x.toNat_lt
  have hy := y.toNat_lt
  simp only [hexByte, List.cons.injEq, and_true] at h
  have h1 := hexDig_inj (by omega) (by omega) h.1
  have h2 := hexDig_inj (by omega) (by omega) h.2
  exact UInt8.toNat_inj.1 (by omega)
theorem hexOf_set (l : List UInt8) (k : Nat) (hk : k < l.length) (y : UInt8) (h : l[k] ≠ y) : hexOf l ≠ hexOf (l.set k y) := by
  have e1 : l = l.take k ++ l[k] :: l.drop (k + 1) := by simp
  have e2 : l.set k y = l.take k ++ y :: l.drop (k + 1) := by rw [List.set_eq_take_append_cons_drop, if_pos hk]
  intro e
  rw [e2] at e
  conv at e => lhs; rw [e1]
  rw [hexOf_append, hexOf_append] at e
  have e3 := List.append_cancel_left e
  simp only [hexOf, List.flatMap_cons] at e3
  have e4 := List.append_inj_left e3 (by simp [hexByte])
  exact h (hexByte_inj e4)

theorem crc_known : crcOf [49, 50, 51, 52, 53, 54, 55, 56, 57] = 0xcbf43926 := by decide +kernel
theorem hex_known : hexOf [0, 0xaf] = [48, 48, 97, 102] := by decide +kernel

end Go.Proofs.Ytjakhemolecbnaa
end

/-
  Frames of records as plain functions: how they are made, and scanned.
-/
section
set_option linter.unusedVariables false
set_option linter.unusedSimpArgs false
namespace Go.Proofs.Ytjakhemolecbnaa

/-- Four bytes of a number, the highest first. -/
def be4n (n : Nat) : List UInt8 := [UInt8.ofNat (n / 16777216), UInt8.ofNat (n / 65536), UInt8.ofNat (n / 256), UInt8.ofNat n]
theorem be4n_length (n : Nat) : (be4n n).length = 4 := rfl
/-- The number of the first four bytes. -/
def four : List UInt8 → Nat
  | a :: b :: c :: d :: _ => ((a.toNat * 256 + b.toNat) * 256 + c.toNat) * 256 + d.toNat
  | _ => 0
theorem four_be4 (n : Nat) (h : n < 4294967296) (t : List UInt8) : four (be4n n ++ t) = n := by
  simp only [be4n, four, List.cons_append, UInt8.toNat_ofNat']
  omega
theorem four_lt (l : List UInt8) : four l < 4294967296 := by
  unfold four
  split
  · rename_i a b c d _
    have := a.toNat_lt; have := b.toNat_lt; have := c.toNat_lt; have := d.toNat_lt
    omega
  · omega
theorem four_take (l : List UInt8) (k : Nat) (h : 4 ≤ k) : four (l.take k) = four l := by
  obtain ⟨k, rfl⟩ : ∃ m, k = m + 4 := ⟨k - 4, by omega⟩
  rcases l with _ | ⟨a, _ | ⟨b, _ | ⟨c, _ | ⟨d, l⟩⟩⟩⟩ <;> simp [four]

def kindOf (first : Bool) : UInt8 := if first then 1 else 0
/-- A record as bytes. -/
def frameOf (first : Bool) (rec : List UInt8) : List UInt8 := be4n rec.length ++ (be4n (crcOf (kindOf first :: rec)).toNat ++ kindOf first :: rec)
theorem frameOf_length (f : Bool) (rec : List UInt8) : (frameOf f rec).length = 9 + rec.length := by
  simp [frameOf, be4n_length]; omega

/-- The frame with which bytes begin. -/
def bodyOf (b : List UInt8) : List UInt8 := (b.drop 8).take (1 + four b)
def oneOf (b : List UInt8) : Option (Bool × List UInt8) :=
  if b.length < 9 then none
  else if 4000 < four b ∨ b.length - 9 < four b then none
  else if 1 < ((bodyOf b).headD 0).toNat ∨ (crcOf (bodyOf b)).toNat ≠ four (b.drop 4) then none
  else some (decide ((bodyOf b).headD 0 = 1), (bodyOf b).tail)

theorem oneOf_length {b : List UInt8} {f : Bool} {rec : List UInt8} (h : oneOf b = some (f, rec)) : 9 + rec.length ≤ b.length ∧ rec.length = four b ∧ rec.length ≤ 4000 := by
  unfold oneOf at h
  split at h
  · cases h
  · split at h
    · cases h
    · split at h
      · cases h
      · cases h
        have : (bodyOf b).tail.length = four b := by
          simp [bodyOf]; omega
        omega

theorem bodyOf_frame (f : Bool) (rec t : List UInt8) (h : rec.length ≤ 4000) : bodyOf (frameOf f rec ++ t) = kindOf f :: rec := by
  have h4 : four (frameOf f rec ++ t) = rec.length := by
    unfold frameOf
    rw [List.append_assoc]
    exact four_be4 _ (by omega) _
  unfold bodyOf
  rw [h4]
  simp [frameOf, be4n, Nat.add_comm 1]

theorem oneOf_frame (f : Bool) (rec t : List UInt8) (h : rec.length ≤ 4000) : oneOf (frameOf f rec ++ t) = some (f, rec) := by
  have h4 : four (frameOf f rec ++ t) = rec.length := by
    unfold frameOf
    rw [List.append_assoc]
    exact four_be4 _ (by omega) _
  have h8 : four ((frameOf f rec ++ t).drop 4) = (crcOf (kindOf f :: rec)).toNat := by
    unfold frameOf
    rw [show (be4n rec.length ++ (be4n (crcOf (kindOf f :: rec)).toNat ++ kindOf f :: rec) ++ t).drop 4 = be4n (crcOf (kindOf f :: rec)).toNat ++ (kindOf f :: rec ++ t) by simp [be4n]]
    exact four_be4 _ (crcOf _).toNat_lt _
  unfold oneOf
  rw [bodyOf_frame f rec t h, h4, h8, List.length_append, frameOf_length]
  rw [if_neg (by omega), if_neg (by omega)]
  cases f
  · rw [if_neg (by simp [kindOf])]
    simp [kindOf]
  · rw [if_neg (by simp [kindOf])]
    simp [kindOf]

/-- A frame that is cut off is none. -/
theorem oneOf_torn (f : Bool) (rec : List UInt8) (h : rec.length ≤ 4000) (k : Nat) (hk : k < 9 + rec.length) : oneOf ((frameOf f rec).take k) = none := by
  unfold oneOf
  have hl : ((frameOf f rec).take k).length = k := by rw [List.length_take, frameOf_length]; omega
  rw [hl]
  by_cases h9 : k < 9
  · rw [if_pos h9]
  · rw [if_neg h9, if_pos]
    right
    rw [four_take _ _ (by omega)]
    have h4 : four (frameOf f rec) = rec.length := by
      unfold frameOf
      exact four_be4 _ (by omega) _
    omega
theorem oneOf_short {b : List UInt8} (h : b.length < 9) : oneOf b = none := by unfold oneOf; rw [if_pos h]

/-- Scanning, by fuel: what is left, the records so far, how many bytes they have. -/
def scanGo : Nat → List UInt8 → List (List UInt8) → Nat → List (List UInt8) × Nat
  | 0, _, out, at_ => (out, at_)
  | f + 1, b, out, at_ =>
    match oneOf b with
    | none => (out, at_)
    | some (first, rec) => scanGo f (b.drop (9 + rec.length)) ((if first then [] else out) ++ [rec]) (at_ + (9 + rec.length))
def scanOf (b : List UInt8) : List (List UInt8) × Nat := scanGo (b.length + 1) b [] 0

/-- Enough fuel is enough. -/
theorem scanGo_fuel : ∀ (f g : Nat) (b : List UInt8) (out : List (List UInt8)) (n : Nat), b.length < f → b.length < g → scanGo f b out n = scanGo g b out n
  | 0, _, _, _, _, h, _ => absurd h (by omega)
  | _, 0, _, _, _, _, h => absurd h (by omega)
  | f + 1, g + 1, b, out, n, hf, hg => by
    unfold scanGo
    cases h : oneOf b with
    | none => rfl
    | some p =>
      obtain ⟨first, rec⟩ := p
      have := oneOf_length h
      exact scanGo_fuel f g _ _ _ (by rw [List.length_drop]; omega) (by rw [List.length_drop]; omega)

/-- What records have done behind others. -/
def applyOne (out : List (List UInt8)) (x : Bool × List UInt8) : List (List UInt8) := (if x.1 then [] else out) ++ [x.2]
def framesOf (l : List (Bool × List UInt8)) : List UInt8 := l.flatMap fun x => frameOf x.1 x.2

theorem framesOf_snoc (l : List (Bool × List UInt8)) (x : Bool × List UInt8) : framesOf (l ++ [x]) = framesOf l ++ frameOf x.1 x.2 := by simp [framesOf]
theorem framesOf_cons (l : List (Bool × List UInt8)) (x : Bool × List UInt8) : framesOf (x :: l) = frameOf x.1 x.2 ++ framesOf l := by simp [framesOf]

theorem scanGo_frames : ∀ (l : List (Bool × List UInt8)) (t : List UInt8) (f : Nat) (out : List (List UInt8)) (n : Nat), (∀ x ∈ l, x.2.length ≤ 4000) → oneOf t = none → (framesOf l ++ t).length < f →
    scanGo f (framesOf l ++ t) out n = (l.foldl applyOne out, n + (framesOf l).length)
  | [], t, f, out, n, _, ht, hf => by
    obtain ⟨g, rfl⟩ : ∃ g, f = g + 1 := ⟨f - 1, by omega⟩
    simp only [framesOf, List.flatMap_nil, List.nil_append, List.foldl_nil, List.length_nil, Nat.add_zero]
    unfold scanGo
    rw [ht]
  | x :: l, t, f, out, n, hx, ht, hf => by
    obtain ⟨g, rfl⟩ : ∃ g, f = g + 1 := ⟨f - 1, by omega⟩
    have hx0 := hx x (by simp)
    rw [framesOf_cons, List.append_assoc] at hf ⊢
    unfold scanGo
    rw [oneOf_frame x.1 x.2 _ hx0]
    show scanGo g ((frameOf x.1 x.2 ++ (framesOf l ++ t)).drop (9 + x.2.length)) ((if x.1 then [] else out) ++ [x.2]) _ = _
    rw [show 9 + x.2.length = (frameOf x.1 x.2).length from (frameOf_length _ _).symm, List.drop_left]
    rw [scanGo_frames l t g _ _ (fun y hy => hx y (by simp [hy])) ht (by rw [List.length_append, frameOf_length] at hf; omega)]
    simp [applyOne, Nat.add_assoc]

/-- Frames, and behind them what begins with none. -/
theorem scanOf_frames (l : List (Bool × List UInt8)) (t : List UInt8) (hx : ∀ x ∈ l, x.2.length ≤ 4000) (ht : oneOf t = none) :
    scanOf (framesOf l ++ t) = (l.foldl applyOne [], (framesOf l).length) := by
  unfold scanOf
  rw [scanGo_frames l t _ [] 0 hx ht (by omega)]
  simp

theorem fold_plain : ∀ (l out : List (List UInt8)), (l.map fun x => (false, x)).foldl applyOne out = out ++ l
  | [], out => by simp
  | x :: l, out => by simp [applyOne, fold_plain l]

/-- Frames that are cut off: the whole ones, and a torn one. -/
theorem frames_cut : ∀ (l : List (Bool × List UInt8)) (k : Nat), (∀ x ∈ l, x.2.length ≤ 4000) → k ≤ (framesOf l).length →
    ∃ m t, m ≤ l.length ∧ (framesOf l).take k = framesOf (l.take m) ++ t ∧ oneOf t = none ∧ (framesOf (l.take m)).length ≤ k ∧ (∀ m', m < m' → m' ≤ l.length → k < (framesOf (l.take m')).length)
  | [], k, _, hk => ⟨0, [], Nat.le_refl _, by simp [framesOf], by rfl, by simp [framesOf], fun m' h h' => absurd h' (by simp; omega)⟩
  | x :: l, k, hx, hk => by
    rw [framesOf_cons] at hk ⊢
    by_cases hlt : k < 9 + x.2.length
    · refine ⟨0, (frameOf x.1 x.2).take k, Nat.zero_le _, ?_, oneOf_torn _ _ (hx x (by simp)) _ hlt, by simp [framesOf], fun m' h h' => ?_⟩
      · rw [List.take_append_of_le_length (by rw [frameOf_length]; omega)]
        simp [framesOf]
      · obtain ⟨m', rfl⟩ : ∃ j, m' = j + 1 := ⟨m' - 1, by omega⟩
        rw [List.take_succ_cons, framesOf_cons, List.length_append, frameOf_length]
        omega
    · obtain ⟨m, t, h1, h2, h3, h4, h5⟩ := frames_cut l (k - (9 + x.2.length)) (fun y hy => hx y (by simp [hy])) (by rw [List.length_append, frameOf_length] at hk; omega)
      refine ⟨m + 1, t, by simp; omega, ?_, h3, ?_, fun m' h h' => ?_⟩
      · rw [List.take_append, List.take_of_length_le (by rw [frameOf_length]; omega), frameOf_length, h2, List.take_succ_cons, framesOf_cons, List.append_assoc]
      · rw [List.take_succ_cons, framesOf_cons, List.length_append, frameOf_length]
        omega
      · obtain ⟨m', rfl⟩ : ∃ j, m' = j + 1 := ⟨m' - 1, by omega⟩
        have := h5 m' (by omega) (by simp at h'; omega)
        rw [List.take_succ_cons, framesOf_cons, List.length_append, frameOf_length]
        omega

theorem scanGo_le : ∀ (f : Nat) (b : List UInt8) (out : List (List UInt8)) (n : Nat), (scanGo f b out n).2 ≤ n + b.length
  | 0, b, out, n => by simp [scanGo]
  | f + 1, b, out, n => by
    unfold scanGo
    cases h : oneOf b with
    | none => simp
    | some p =>
      obtain ⟨x, r⟩ := p
      have h1 := oneOf_length h
      have h2 := scanGo_le f (b.drop (9 + r.length)) ((if x then [] else out) ++ [r]) (n + (9 + r.length))
      rw [List.length_drop] at h2
      simp only
      omega
theorem scanOf_le (b : List UInt8) : (scanOf b).2 ≤ b.length := by
  have := scanGo_le (b.length + 1) b [] 0
  simpa [scanOf] using this
theorem scanOf_all (l : List (Bool × List UInt8)) (hx : ∀ x ∈ l, x.2.length ≤ 4000) : scanOf (framesOf l) = (l.foldl applyOne [], (framesOf l).length) := by
  have := scanOf_frames l [] hx (by rfl)
  simpa using this

end Go.Proofs.Ytjakhemolecbnaa
end

/-
  The walks of package wire: contracts over two predicates, WriterAt and ReaderAt.
-/
section
set_option linter.unusedVariables false
set_option linter.unusedSimpArgs false
namespace Go.Proofs.Ytjakhemolecbnaa
open Go.RowKit

/-- The lowest bytes of a number, the highest first: the first i of size. -/
def putPre (n size i : Nat) : List UInt8 := (List.range i).map fun j => byteAt n (8 * (size - 1 - j))
theorem putPre_snoc (n size i : Nat) : putPre n size (i + 1) = putPre n size i ++ [byteAt n (8 * (size - 1 - i))] := by simp [putPre, List.range_succ]
theorem putPre_length (n size i : Nat) : (putPre n size i).length = i := by simp [putPre]

/-- A writer at block p: its bytes (the row v, from block B on). -/
structure WriterAt (w : World) (B p : Nat) (v : Value) (b : List UInt8) : Prop where
  at_ : w.heap[p]? = some (.cells #[v] 131 (0, 0))
  own : w.ownsRow B 5 1 v b.length (bv b)
  ne : v.ownBlock ≠ some p
  base : B ≤ p

namespace WriterAt
variable {w w' : World} {B p : Nat} {v : Value} {b : List UInt8}
theorem lt (h : WriterAt w B p v b) : p < w.heap.size := (Array.getElem?_eq_some_iff.1 h.at_).1
theorem c0 (h : WriterAt w B p v b) : w.cell? ⟨p, 0, none⟩ = some v := by rw [cell_of_row w p 0 _ _ _ h.at_]; rfl
theorem f0 (h : WriterAt w B p v b) (j : Nat) : w.frozen? ⟨p, j, none⟩ = false := frozen_of_row w p j _ _ h.at_
theorem upd {F : Nat → Prop} (h : WriterAt w B p v b) (u : Upd F w w') (hp : ¬ F p) (hv : ∀ k, v.ownBlock = some k → ¬ F k) : WriterAt w' B p v b :=
  ⟨(u.block p h.lt hp).trans h.at_, own_upd h.own u hv, h.ne, h.base⟩
theorem below (h : WriterAt w B p v b) (hb : Below w.heap.size w w') : WriterAt w' B p v b := h.upd (Upd.of_below (F := fun _ => False) hb) id (fun _ _ => id)
theorem drew (h : WriterAt w B p v b) : WriterAt w.drew B p v b := ⟨h.at_, h.own, h.ne, h.base⟩
end WriterAt

set_option maxHeartbeats 400000 in
theorem newWriter_any (w : World) : Calls Try.prog 46 #[] w fun e w' =>
    e = .returned (.pointer (some ⟨w.heap.size, 0, none⟩)) ∧ WriterAt w' w.heap.size w.heap.size (.slice none 0 0) [] ∧ Below w.heap.size w w' := by
  go_enter Try.func46, Try.ntmps46
  go_wp2
  go_ret
  exact ⟨rfl, ⟨heap_alloc_new w _, World.ownsRow_nil _ _ _ _, by simp [Value.ownBlock], Nat.le_refl _⟩, (Below.refl _ _).alloc (Nat.le_refl _) _⟩

set_option maxHeartbeats 4000000 in
theorem put_any (w : World) (B p : Nat) (v : Value) (b : List UInt8) (h : WriterAt w B p v b) (n size : Nat) (hn : n < 18446744073709551616) (hs : size ≤ 8) (hbl : b.length ≤ 100000000) :
    Calls Try.prog 73 #[.pointer (some ⟨p, 0, none⟩), .int .u64 (n : Int), .int .i64 (size : Int)] w fun e w' => ∃ v', e = .returned (.tuple #[]) ∧ WriterAt w' B p v' (b ++ putPre n size size) ∧ Below B w w' := by
  have H := Lib.hid h
  clear h
  go_enter Try.func73, Try.ntmps73
  go_wp2
  refine wp_scope_loop 0 (fun a' w' => ∃ (i j : Nat) (v : Value) (u8 u9 u10 u11 u12 u13 u14 u15 u16 u17 u18 u19 u20 u21 u22 u23 u24 u25 : Value),
    a' = { tmps := #[.pointer (some ⟨p, 0, none⟩), .int .u64 (n : Int), .int .i64 (size : Int), undef, undef, undef, .int .i64 (j : Int), .int .i64 (size : Int), u8, u9, u10, u11, u12, u13, u14, u15, u16, u17, u18, u19, u20, u21, u22, u23, u24, u25], defers := [] } ∧
    i + j = size ∧ WriterAt w' B p v (b ++ putPre n size i) ∧ Below B w w') (fun a' _ => (intOf (a'.tmps.getD 6 undef)).toNat) rfl ?pass ?first
  case first =>
    intro hrest
    go_wp2
    go_step3
    rename_i hK
    refine hK _ _ (hrest _ _ ?_)
    refine ⟨0, size, v, _, _, _, _, _, _, _, _, _, _, _, _, _, _, _, _, _, _, rfl, by omega, ?_, Below.refl _ _⟩
    rw [show putPre n size 0 = [] from rfl, List.append_nil]
    exact H.out
  case pass =>
    rintro a' w' ⟨i, j, v, u8, u9, u10, u11, u12, u13, u14, u15, u16, u17, u18, u19, u20, u21, u22, u23, u24, u25, rfl, hij, hw, hb⟩
    clear H
    have H := Lib.hid hw
    have HB := Lib.hid hb
    clear hw hb
    by_cases h0 : j = 0
    · subst h0
      have hi : i = size := by omega
      subst hi
      go_wp2
      simp only [Exit.jump]
      refine bodyPost_ret (results_none rfl _ _ _) rfl ?_
      exact ⟨v, rfl, H.out, HB.out⟩
    · obtain ⟨j, rfl⟩ : ∃ m, j = m + 1 := ⟨j - 1, by omega⟩
      have h8 : size - 1 - i = j := by omega
      obtain ⟨z, hz⟩ : ∃ z : Int, z = 8 * (j : Int) := ⟨_, rfl⟩
      have hB : (n : Int) / 2 ^ z.toNat % 256 = un8 (byteAt n (8 * j)) := by
        rw [byteAt_un8, show z.toNat = 8 * j by omega, Int.natCast_emod, Int.natCast_ediv, Int.natCast_pow]
        rfl
      have hB2 : IntKind.u8.wrap ((n : Int) / 2 ^ z.toNat) = un8 (byteAt n (8 * j)) := by rw [IntKind.wrap_u8]; exact hB
      have hz0 : 0 ≤ z := by omega
      have hz1 : z ≤ 56 := by omega
      have hw8 : IntKind.i64.wrap (8 * (j : Int)) = z := by rw [IntKind.wrap_i64]; omega
      clear hz
      have hj0 : (0 : Int) ≤ (j : Int) := by omega
      have hj7 : (j : Int) ≤ 7 := by omega
      have hn0 : (0 : Int) ≤ (n : Int) := by omega
      have hn1 : (n : Int) ≤ 18446744073709551615 := by omega
      have HN := Lib.hid hn
      clear hn
      have HS := Lib.hid (putPre_snoc n size i)
      rw [h8] at HS
      have HIJ := Lib.hid hij
      have HLB := Lib.hid (putPre_length n size i)
      clear h0 hij h8
      generalize putPre n size i = pre at *
      generalize byteAt n (8 * j) = bb at *
      obtain ⟨A0, c0, rfl, _⟩ := own_slice H.out.own
      have h0 := H.out.c0
      have hlt := H.out.lt
      have hy : (b ++ pre).length ≤ 100000100 := by have := HLB.out; have := HIJ.out; rw [List.length_append]; omega
      have HY := Lib.hid (show (b ++ pre) ++ [bb] = b ++ (pre ++ [bb]) by simp)
      generalize b ++ pre = y at *
      go_upto_region 3 with fail
      go_region_law (refine step_append_any rfl (.tmp 16) (.tmp 22) 25 rfl B 5 (.int .u8 0) 1 1 Try.underlying25 info8 rfl (by omega) (by omega) (.slice A0 y.length c0) _ _ rfl (World.ownsRow.alloc (w := w'.drew) H.out.own _) _ 1 _ (bv [bb]) rfl rfl (RC_newL w'.drew (bv [bb]) 5) (bv_one _) (by omega) (by have := H.out.base; simp; omega) ?_; intro v1 w1 ho1 hg1 hat1; have hu : Upd (fun k => (Value.slice A0 y.length c0).ownBlock = some k) w' w1 := (((Upd.refl _ w').drew).alloc _).grown hg1 (fun k hk _ => hk); have hw1 := (hu.block p hlt (fun e => H.out.ne e)).trans H.out.at_; have k0 : w1.cell? ⟨p, 0, none⟩ = some (.slice A0 y.length c0) := (cell_of_row w1 p 0 _ _ _ hw1).trans rfl; have kf : w1.frozen? ⟨p, 0, none⟩ = false := frozen_of_row w1 p 0 _ _ hw1; obtain ⟨A1, c1, rfl, _⟩ := own_slice ho1)
      all_goals
        go_wp2_with fail
        go_step3
        have hne : (Value.slice A1 (y.length + 1) c1).ownBlock ≠ some p := by
          intro e
          rcases hat1 with h | h
          · exact H.out.ne (h ▸ e)
          · rw [h] at e; simp at e; omega
        have hb1 : Below B w (w1.setCell ⟨p, 0, none⟩ (.slice A1 (y.length + 1) c1)) := by
          refine (below_upd HB.out (by have := H.out.base; omega) hu (fun k hk => (World.ownsRow.lt H.out.own k hk).1)).setCell ?_ _
          exact H.out.base
        refine ⟨rfl, ⟨i + 1, j, _, _, _, _, _, _, _, _, _, _, _, _, _, _, _, _, _, _, _, rfl, by have := HIJ.out; omega, ⟨?_, ?_, hne, H.out.base⟩, hb1⟩, by simp [intOf]⟩
        · rw [setCell_at hw1]; rfl
        · rw [HS.out, ← HY.out, List.length_append, bv_append]
          exact own_setCell ho1 hne _

theorem byteAt_u32 (n k : Nat) : byteAt n k = UInt8.ofNat (n / 2 ^ k) := rfl
theorem putPre_four (n : Nat) : putPre n 4 4 = be4n n := by
  simp [putPre, be4n, List.range, List.range.loop, byteAt]

set_option maxHeartbeats 1000000 in
theorem writerFour_any (w : World) (B p : Nat) (v : Value) (b : List UInt8) (h : WriterAt w B p v b) (n : Nat) (hn : n < 9223372036854775808) (hbl : b.length ≤ 100000000) :
    Calls Try.prog 74 #[.pointer (some ⟨p, 0, none⟩), .int .i64 (n : Int)] w fun e w' => ∃ v', e = .returned (.tuple #[]) ∧ WriterAt w' B p v' (b ++ be4n n) ∧ Below B w w' := by
  have H := Lib.hid h
  have hn0 : (0 : Int) ≤ (n : Int) := by omega
  have hn1 : (n : Int) < 9223372036854775808 := by omega
  have HN := Lib.hid hn
  clear h hn
  have hw : IntKind.u64.wrap (n : Int) = (n : Int) := by rw [IntKind.wrap_u64]; omega
  go_enter Try.func74, Try.ntmps74
  go_wp2_with fail
  refine (put_any _ B p v b H.out n 4 (by have := HN.out; omega) (by omega) hbl).mono ?_
  rintro e w1 ⟨v1, rfl, hw1, hb1⟩
  rw [putPre_four] at hw1
  have HW := Lib.hid hw1
  have HB := Lib.hid hb1
  clear hw1 hb1
  go_wp2_with fail
  go_end0
  exact ⟨_, rfl, HW.out, HB.out⟩

set_option maxHeartbeats 1000000 in
theorem writerDone_any (w : World) (B p : Nat) (v : Value) (b : List UInt8) (h : WriterAt w B p v b) (hbl : b.length ≤ 100000000) :
    Calls Try.prog 49 #[.pointer (some ⟨p, 0, none⟩)] w fun e w' => ∃ x, e = .returned x ∧ w'.ownsRow w.heap.size 5 1 x b.length (bv b) ∧ Below w.heap.size w w' := by
  have hnil : ∀ A c, v = .slice A b.length c → A = none → c = 0 := by
    intro A c e1 e2
    subst e1
    subst e2
    rcases h.own.2 with ⟨h', _⟩ | ⟨g, cap, cur, h', _⟩
    · simp at h'; exact h'.2
    · simp at h'
  obtain ⟨A, c, rfl, _⟩ := own_slice h.own
  have hn := hnil A c rfl
  have h0 := h.c0
  have H := Lib.hid h
  have HN := Lib.hid hn
  clear h hn hnil
  go_enter Try.func49, Try.ntmps49
  go_wp2_with fail
  refine (clone8_any A _ c b _ rfl (by omega) (own_RC H.out.own).bytes HN.out).mono ?_
  rintro e w1 ⟨x, rfl, ho, hb⟩
  have HO := Lib.hid ho
  have HB := Lib.hid hb
  clear ho hb
  go_wp2_with fail
  go_ret
  exact ⟨_, rfl, HO.out, HB.out⟩

/-- A reader at block p: its bytes (the row v, from block B on), and how many are read; nothing is refused. -/
structure ReaderAt (w : World) (B p : Nat) (v : Value) (l : List UInt8) (a : Nat) : Prop where
  at_ : w.heap[p]? = some (.cells #[v, .int .i64 (a : Int), .int .i64 0, .int .i64 0] 127 (0, 0))
  own : w.ownsRow B 5 1 v l.length (bv l)
  ne : v.ownBlock ≠ some p
  base : B ≤ p

namespace ReaderAt
variable {w w' : World} {B p : Nat} {v : Value} {l : List UInt8} {a : Nat}
theorem lt (h : ReaderAt w B p v l a) : p < w.heap.size := (Array.getElem?_eq_some_iff.1 h.at_).1
theorem c0 (h : ReaderAt w B p v l a) : w.cell? ⟨p, 0, none⟩ = some v := by rw [cell_of_row w p 0 _ _ _ h.at_]; rfl
theorem c1 (h : ReaderAt w B p v l a) : w.cell? ⟨p, 1, none⟩ = some (.int .i64 (a : Int)) := by rw [cell_of_row w p 1 _ _ _ h.at_]; rfl
theorem c2 (h : ReaderAt w B p v l a) : w.cell? ⟨p, 2, none⟩ = some (.int .i64 0) := by rw [cell_of_row w p 2 _ _ _ h.at_]; rfl
theorem f0 (h : ReaderAt w B p v l a) (j : Nat) : w.frozen? ⟨p, j, none⟩ = false := frozen_of_row w p j _ _ h.at_
theorem upd {F : Nat → Prop} (h : ReaderAt w B p v l a) (u : Upd F w w') (hp : ¬ F p) (hv : ∀ k, v.ownBlock = some k → ¬ F k) : ReaderAt w' B p v l a :=
  ⟨(u.block p h.lt hp).trans h.at_, own_upd h.own u hv, h.ne, h.base⟩
theorem below (h : ReaderAt w B p v l a) (hb : Below w.heap.size w w') : ReaderAt w' B p v l a := h.upd (Upd.of_below (F := fun _ => False) hb) id (fun _ _ => id)
theorem drew (h : ReaderAt w B p v l a) : ReaderAt w.drew B p v l a := ⟨h.at_, h.own, h.ne, h.base⟩
end ReaderAt

set_option maxHeartbeats 1000000 in
theorem newReader_any (A : Option Addr) (n c : Nat) (l : List UInt8) (w : World) (hl : l.length = n) (hn : n ≤ 100000000) (hr : RB w A l) (hnil : A = none → c = 0) :
    Calls Try.prog 37 #[.slice A n c] w fun e w' => ∃ q v', e = .returned (.pointer (some ⟨q, 0, none⟩)) ∧ ReaderAt w' w.heap.size q v' l 0 ∧ Below w.heap.size w w' := by
  have HR := Lib.hid hr
  have HN := Lib.hid hnil
  clear hr hnil
  go_enter Try.func37, Try.ntmps37
  go_wp2_with fail
  refine (clone8_any A n c l _ hl (by omega) HR.out HN.out).mono ?_
  rintro e w1 ⟨x, rfl, ho, hb⟩
  subst hl
  obtain ⟨A1, c1, rfl, _⟩ := own_slice ho
  have HO := Lib.hid ho
  have HB := Lib.hid hb
  clear ho hb
  go_wp2_with fail
  go_ret
  refine ⟨_, _, rfl, ⟨heap_alloc_new w1 _, HO.out.alloc _, ?_, HB.out.size⟩, HB.out.alloc HB.out.size _⟩
  intro e
  have := (World.ownsRow.lt HO.out _ e).2
  omega

set_option maxHeartbeats 4000000 in
theorem take_any (w : World) (B p : Nat) (v : Value) (l : List UInt8) (a : Nat) (h : ReaderAt w B p v l a) (n : Nat) (h0 : 0 < n) (hn : a + n ≤ l.length) (hl : l.length ≤ 100000000) :
    Calls Try.prog 71 #[.pointer (some ⟨p, 0, none⟩), .int .i64 (n : Int)] w fun e w' => ∃ A c, e = .returned (.slice A n c) ∧ RB w' A ((l.drop a).take n) ∧ ReaderAt w' B p v l (a + n) ∧ Below B w w' := by
  obtain ⟨g, c0, rfl, hB, hc⟩ := own_form h.own (by omega)
  have k0 := h.c0
  have k1 := h.c1
  have k2 := h.c2
  have f1 := h.f0 1
  have hlt := h.lt
  have H := Lib.hid h
  clear h
  have hne : ¬ (c0 = a) := by omega
  have hw1 : IntKind.i64.wrap ((l.length : Int) - (a : Int)) = (l.length : Int) - (a : Int) := by rw [IntKind.wrap_i64]; omega
  have hw2 : ¬ ((l.length : Int) - (a : Int) < (n : Int)) := by omega
  go_enter Try.func71, Try.ntmps71
  go_wp2_with fail
  go_region
  go_wp2_with fail
  go_region
  go_wp2_with fail
  go_ret
  have hb1 : Below B w (w.setCell ⟨p, 1, none⟩ (.int .i64 ((a : Int) + (n : Int)))) := (Below.refl _ _).setCell H.out.base _
  refine ⟨some ⟨g, a, none⟩, c0 - a, (show Ending.returned (.slice (some ⟨g, a, none⟩) (a + n - a) (c0 - a)) = _ by rw [Nat.add_sub_cancel_left]), ?_, ⟨?_, own_setCell H.out.own H.out.ne _, H.out.ne, H.out.base⟩, hb1.drew.drew⟩
  · intro _
    refine ⟨_, rfl, fun j hj => ?_⟩
    have hj' : a + j < l.length := by simp at hj; omega
    have h1 := own_byte (own_setCell (j := 1) H.out.own H.out.ne (.int .i64 ((a : Int) + (n : Int)))) (a + j) hj'
    rw [add_off]
    refine Eq.trans ?_ (h1.trans ?_)
    · rfl
    · simp
  · exact (setCell_at H.out.at_ _).trans rfl

/-- The number of bytes, the highest first. -/
def numOf (l : List UInt8) : Nat := l.foldl (fun n x => n * 256 + x.toNat) 0
theorem numOf_snoc (l : List UInt8) (x : UInt8) : numOf (l ++ [x]) = numOf l * 256 + x.toNat := by simp [numOf]
theorem numOf_lt_from : ∀ (l : List UInt8) (n : Nat), l.foldl (fun n x => n * 256 + x.toNat) n < (n + 1) * 256 ^ l.length
  | [], n => by simp
  | x :: l, n => by
    have h := numOf_lt_from l (n * 256 + x.toNat)
    have hx := x.toNat_lt
    rw [List.foldl_cons, List.length_cons, Nat.pow_succ]
    refine Nat.lt_of_lt_of_le h ?_
    rw [Nat.mul_comm (256 ^ l.length) 256, ← Nat.mul_assoc]
    exact Nat.mul_le_mul_right _ (by omega)
theorem numOf_lt (l : List UInt8) : numOf l < 256 ^ l.length := by have := numOf_lt_from l 0; simpa [numOf] using this
theorem numOf_four (l : List UInt8) (h : 4 ≤ l.length) : numOf (l.take 4) = four l := by
  rcases l with _ | ⟨a, _ | ⟨b, _ | ⟨c, _ | ⟨d, l⟩⟩⟩⟩ <;> simp at h
  simp [numOf, four]

theorem or64_low (n : Nat) (x : UInt8) (h : n < 72057594037927936) : bits .or .u64 (((n * 256 : Nat) : Int)) (un8 x) = ((n * 256 + x.toNat : Nat) : Int) := by
  have hx := x.toNat_lt
  show IntKind.u64.wrap ((BitVec.ofInt 64 (((n * 256 : Nat) : Int)) ||| BitVec.ofInt 64 (un8 x)).toNat : Int) = _
  rw [show un8 x = ((x.toNat : Nat) : Int) from rfl, BitVec.ofInt_natCast, BitVec.ofInt_natCast, BitVec.toNat_or, BitVec.toNat_ofNat, BitVec.toNat_ofNat, Nat.mod_eq_of_lt (by omega), Nat.mod_eq_of_lt (by omega)]
  rw [show n * 256 ||| x.toNat = n * 256 + x.toNat by
    have := Nat.two_pow_add_eq_or_of_lt (i := 8) (b := x.toNat) (by omega) n
    rw [Nat.mul_comm n 256]
    exact this.symm]
  rw [IntKind.wrap_u64]
  omega

section
set_option maxHeartbeats 4000000 in
theorem get_any (w : World) (B p : Nat) (v : Value) (l : List UInt8) (a : Nat) (h : ReaderAt w B p v l a) (n : Nat) (h0 : 0 < n) (hn8 : n ≤ 7) (hn : a + n ≤ l.length) (hl : l.length ≤ 100000000) :
    Calls Try.prog 70 #[.pointer (some ⟨p, 0, none⟩), .int .i64 (n : Int)] w fun e w' => e = .returned (.int .u64 (numOf ((l.drop a).take n) : Nat)) ∧ ReaderAt w' B p v l (a + n) ∧ Below B w w' := by
  go_enter Try.func70, Try.ntmps70
  have hx : ((l.drop a).take n).length = n := by simp; omega
  obtain ⟨x, ex⟩ : ∃ x, x = (l.drop a).take n := ⟨_, rfl⟩
  rw [← ex] at hx ⊢
  go_wp2_with fail
  refine wp_scope_loop 0 (fun a' w' => ∃ (i c y : Nat) (A : Option Addr) (u8 u9 u10 u11 u12 u13 u14 u15 u16 u17 u18 u19 u20 u21 u22 u23 u24 u25 : Value),
    a' = { tmps := #[.pointer (some ⟨p, 0, none⟩), .int .i64 (n : Int), undef, undef, .int .u64 0, .int .u64 (y : Int), .slice A n c, .int .i64 (i : Int), u8, u9, u10, u11, u12, u13, u14, u15, u16, u17, u18, u19, u20, u21, u22, u23, u24, u25], defers := [] } ∧
    y = numOf (x.take i) ∧ i ≤ n ∧ RB w' A x ∧ ReaderAt w' B p v l (a + n) ∧ Below B w w') (fun a' _ => ((n : Int) - intOf (a'.tmps.getD 7 undef)).toNat) rfl ?pass ?first
  case first =>
    intro hrest
    go_wp2_with fail
    refine (take_any w B p v l a h n h0 hn hl).mono ?_
    rintro e w1 ⟨A, c, rfl, hr, hw, hb⟩
    rw [← ex] at hr
    have H := Lib.hid hw
    have HR := Lib.hid hr
    have HB := Lib.hid hb
    clear h hw hr hb
    go_wp2_with fail
    go_step3
    rename_i hK
    refine hK _ _ (hrest _ _ ?_)
    exact ⟨0, _, 0, _, _, _, _, _, _, _, _, _, _, _, _, _, _, _, _, _, _, _, rfl, by simp [numOf], by omega, HR.out, H.out, HB.out⟩
  case pass =>
    rintro a' w' ⟨i, c, y, A, u8, u9, u10, u11, u12, u13, u14, u15, u16, u17, u18, u19, u20, u21, u22, u23, u24, u25, rfl, hy, hi, hr, hw, hb⟩
    have H := Lib.hid hw
    have HR := Lib.hid hr
    have HB := Lib.hid hb
    clear h hw hr hb ex
    by_cases hlt : i < n
    · obtain ⟨b, o, rfl, hc⟩ := HR.out.parts (by omega)
      have k1 := hc i (by omega)
      have hs : numOf (x.take (i + 1)) = numOf (x.take i) * 256 + x[i].toNat := by
        rw [List.take_succ_eq_append_getElem (by omega), numOf_snoc]
      have hb1 : numOf (x.take i) < 72057594037927936 := by
        have h1 := numOf_lt (x.take i)
        have h2 : 256 ^ (x.take i).length ≤ 256 ^ 7 := Nat.pow_le_pow_right (by omega) (by rw [List.length_take]; omega)
        have h3 : 256 ^ 7 = 72057594037927936 := by decide
        omega
      rw [← hy] at hs hb1
      have ho := or64_low y x[i] hb1
      rw [← hs, Int.natCast_mul] at ho
      have HS := Lib.hid hs
      obtain ⟨y1, ey1⟩ : ∃ y1, y1 = numOf (x.take (i + 1)) := ⟨_, rfl⟩
      rw [← ey1] at ho
      have EY := Lib.hid ey1
      have hwb := un8_range x[i]
      have how : IntKind.u64.wrap (un8 x[i]) = un8 x[i] := by rw [IntKind.wrap_u64]; omega
      generalize x[i] = bb at *
      have hw1 : IntKind.u64.wrap ((y : Int) * 256) = (y : Int) * 256 := by rw [IntKind.wrap_u64]; omega
      clear hc hs hy hb1 ey1 hwb
      have ho' : bits .or .u64 ((y : Int) * 256) (un8 bb) = (y1 : Int) := ho
      clear ho
      go_wp2_with fail
      go_step3
      refine ⟨rfl, ⟨i + 1, _, y1, _, _, _, _, _, _, _, _, _, _, _, _, _, _, _, _, _, _, _, rfl, EY.out, by omega, HR.out, H.out, HB.out⟩, by simp [intOf]; omega⟩
    · obtain rfl : i = n := by omega
      rw [show x.take i = x from List.take_of_length_le (by omega)] at hy
      have HYY := Lib.hid hy
      clear hy
      go_wp2_with fail
      simp only [Exit.jump]
      go_ret
      exact ⟨by rw [← HYY.out]; rfl, H.out, HB.out⟩
end

set_option maxHeartbeats 1000000 in
theorem readerFour_any (w : World) (B p : Nat) (v : Value) (l : List UInt8) (a : Nat) (h : ReaderAt w B p v l a) (hn : a + 4 ≤ l.length) (hl : l.length ≤ 100000000) :
    Calls Try.prog 83 #[.pointer (some ⟨p, 0, none⟩)] w fun e w' => e = .returned (.int .i64 (four (l.drop a) : Nat)) ∧ ReaderAt w' B p v l (a + 4) ∧ Below B w w' := by
  have hf := numOf_four (l.drop a) (by simp; omega)
  have hlt := four_lt (l.drop a)
  rw [← hf] at hlt ⊢
  obtain ⟨y, ey⟩ : ∃ y, y = numOf ((l.drop a).take 4) := ⟨_, rfl⟩
  rw [← ey] at hlt ⊢
  go_enter Try.func83, Try.ntmps83
  go_wp2_with fail
  refine (get_any w B p v l a h 4 (by omega) (by omega) hn hl).mono ?_
  rw [← ey]
  rintro e w1 ⟨rfl, hw, hb⟩
  have H := Lib.hid hw
  have HB := Lib.hid hb
  clear hw hb h hf ey
  have hw : IntKind.i64.wrap (y : Int) = (y : Int) := by rw [IntKind.wrap_i64]; omega
  clear hlt
  go_wp2_with fail
  go_ret
  exact ⟨rfl, H.out, HB.out⟩

end Go.Proofs.Ytjakhemolecbnaa
end

/-
  The walks of sum.Crc and of the reference's Crc.
-/
section
set_option linter.unusedVariables false
set_option linter.unusedSimpArgs false
namespace Go.Proofs.Ytjakhemolecbnaa
open Go.RowKit

theorem shr1_int (c : UInt32) : un32 c / (2 : Int) = un32 (c >>> 1) := by unfold un32; rw [shr_one_nat]; omega
def crcBits : Nat → UInt32 → UInt32
  | 0, c => c
  | n + 1, c => crcBit (crcBits n c)
theorem crcByte_bits (c : UInt32) (x : UInt8) : crcByte c x = crcBits 8 (c ^^^ x.toUInt32) := rfl
theorem crcFold_snoc (l : List UInt8) (i : Nat) (h : i < l.length) (c : UInt32) : crcFold (l.take (i + 1)) c = crcByte (crcFold (l.take i) c) l[i] := by
  rw [List.take_succ_eq_append_getElem h, crcFold_append]; rfl
theorem and1 (c : UInt32) : bits .and .u32 (un32 c) 1 = un32 (c &&& 1) := and32 c 1
theorem xorPoly (c : UInt32) : bits .xor .u32 (un32 c) 3988292384 = un32 (c ^^^ 0xedb88320) := xor32 c 0xedb88320
theorem xorOnes (c : UInt32) : bits .xor .u32 (un32 c) 4294967295 = un32 (c ^^^ 0xffffffff) := xor32 c 0xffffffff
theorem notOnes (c : UInt32) : bits .xor .u32 IntKind.u32.max (un32 c) = un32 (c ^^^ 0xffffffff) := by
  rw [show IntKind.u32.max = un32 0xffffffff from by decide +kernel, xor32, UInt32.xor_comm]
theorem low_eq (c : UInt32) (h : c &&& 1 = 1) : (un32 (c &&& 1) == 1) = true := by rw [h]; rfl
theorem low_ne (c : UInt32) (h : ¬ c &&& 1 = 1) : (un32 (c &&& 1) == 1) = false := by
  rw [beq_eq_false_iff_ne]
  intro e
  exact h (un32_inj e)

theorem crcBit_set (c : UInt32) (h : c &&& 1 = 1) : (c >>> 1) ^^^ 0xedb88320 = crcBit c := by rw [crcBit, if_pos h]
theorem crcBit_clear (c : UInt32) (h : ¬ c &&& 1 = 1) : c >>> 1 = crcBit c := by rw [crcBit, if_neg h]

section
attribute [local go_sem] un8_mod32 xor32 and1 xorPoly xorOnes notOnes shr1_int
end
end Go.Proofs.Ytjakhemolecbnaa
end

/-
  The walks of wal.Frame, wal.one and wal.Scan.
-/
section
set_option linter.unusedVariables false
set_option linter.unusedSimpArgs false
namespace Go.Proofs.Ytjakhemolecbnaa
open Go.RowKit

/-- Bytes of a string. -/
theorem data_eq (s : ByteArray) : (⟨s.data.toList.toArray⟩ : ByteArray) = s := by
  apply ByteArray.ext
  simp
theorem info8i : ∃ i, Try.prog.info? 5 = some i ∧ i.zero = some (.int .u8 0) ∧ i.size = 1 ∧ i.bytes = 1 := by
  have h := info8
  cases hi : Try.prog.info? 5 with
  | none => rw [hi] at h; cases h
  | some i =>
    rw [hi] at h
    simp at h
    exact ⟨i, rfl, h⟩

/-- What 'one' gives. -/
def oneRes (l : List UInt8) : Value :=
  match oneOf l with
  | none => .tuple #[.bool false, .string ⟨#[]⟩, .int .i64 0]
  | some (f, r) => .tuple #[.bool f, .string ⟨r.toArray⟩, .int .i64 ((9 : Int) + (r.length : Int))]

theorem oneRes_none {l : List UInt8} (h : oneOf l = none) : oneRes l = .tuple #[.bool false, .string ⟨#[]⟩, .int .i64 0] := by unfold oneRes; rw [h]
theorem un8_one (x : UInt8) : (un8 x == 1) = decide (x = 1) := by
  by_cases h : x = 1
  · subst h; rfl
  · have : un8 x ≠ 1 := fun e => h (un8_inj (e.trans rfl))
    simp [h, this]

/-- Strings of bytes as cells. -/
def sv (l : List (List UInt8)) : List Value := l.map fun x => .string ⟨x.toArray⟩
theorem sv_append (l m : List (List UInt8)) : sv (l ++ m) = sv l ++ sv m := by simp [sv]
theorem sv_length (l : List (List UInt8)) : (sv l).length = l.length := by simp [sv]
theorem sv_one (l : List (List UInt8)) : ∀ u ∈ sv l, u.oneCell' = true := by
  intro u hu
  simp only [sv, List.mem_map] at hu
  obtain ⟨q, _, rfl⟩ := hu
  rfl
theorem infoS : (Try.prog.info? 9).map (fun i => (i.zero, i.size, i.bytes)) = some (some (.string ⟨#[]⟩), 1, 16) := by kernel_rfl

theorem RB_drop {w : World} {b o : Nat} {l : List UInt8} (h : RB w (some ⟨b, o, none⟩) l) (k : Nat) : RB w (some ⟨b, o + k, none⟩) (l.drop k) := by
  intro h0
  obtain ⟨ad, e, hc⟩ := h (by simp at h0; omega)
  cases e
  refine ⟨_, rfl, fun j hj => ?_⟩
  have h1 := hc (k + j) (by simp at hj; omega)
  rw [add_off] at h1 ⊢
  rw [Nat.add_assoc, h1]
  simp

/-- One step of scanning. -/
theorem scanGo_none {f : Nat} {b : List UInt8} {out : List (List UInt8)} {n : Nat} (h : oneOf b = none) : scanGo (f + 1) b out n = (out, n) := by
  unfold scanGo; rw [h]
theorem scanGo_some {f : Nat} {b : List UInt8} {out : List (List UInt8)} {n : Nat} {x : Bool} {r : List UInt8} (h : oneOf b = some (x, r)) :
    scanGo (f + 1) b out n = scanGo f (b.drop (9 + r.length)) ((if x then [] else out) ++ [r]) (n + (9 + r.length)) := by
  conv => lhs; unfold scanGo
  rw [h]

end Go.Proofs.Ytjakhemolecbnaa
end

/-
  A region that draws its order, proved by an outline: of each operation a property of its value and of the world (kept by every later step); each operation is walked once, in whatever world and order.
-/
section
set_option linter.unusedVariables false
set_option linter.unusedSimpArgs false
namespace Go.Proofs.Ytjakhemolecbnaa
open Go.RowKit

variable {P : Program} {ops : Array Oper} {Q : Exit → Act → World → Prop}

/-- The slot t is written by no operation but i and those that wait for i. -/
def quietB (ops : Array Oper) (i t : Nat) : Bool :=
  (List.range ops.size).all fun j => match ops[j]? with
    | some o => o.dst != some t || j == i || o.after.any fun e => Region.binds .any e && e.on == i
    | none => true
/-- No two operations write one slot. -/
def apartB (ops : Array Oper) (n : Nat) : Bool :=
  (List.range ops.size).all fun i => match ops[i]? with
    | some o => (match o.dst with | some t => decide (t < n) | none => true) && (List.range ops.size).all fun j => match ops[j]? with
        | some o' => i == j || o.dst == none || o.dst != o'.dst
        | none => true
    | none => true

/-- Operation i waits for j, which writes slot t. -/
def depB (ops : Array Oper) (i j t : Nat) : Bool :=
  match ops[i]?, ops[j]? with
  | some o, some o' => o'.dst == some t && o.after.any fun e => Region.binds .any e && e.on == j
  | _, _ => false

/-- Operation j waits for k. -/
def edgeB (ops : Array Oper) (j k : Nat) : Bool :=
  match ops[j]? with
  | some o => o.after.any fun e => Region.binds .any e && e.on == k
  | none => false

def OpOk (P : Program) (ops : Array Oper) (Q : Exit → Act → World → Prop) (a : Act) (I : Array Bool → World → Prop) (φ : Nat → Value → World → Prop) (i : Nat) (o : Oper) : Prop :=
  ∀ (l : Array Bool) (a' : Act) (w' : World) (K : Act → World → Prop), I l w' → (∀ j k, edgeB ops j k = true → l.getD k false = false → l.getD j false = false) → l.size = ops.size → l.getD i false = false →
    (∀ j t, depB ops i j t = true → φ j (a'.tmps.getD t undef) w') →
    (∀ t, quietB ops i t = true → a'.tmps.getD t undef = a.tmps.getD t undef) →
    (∀ v w'', I (l.setIfInBounds i true) w'' → (∀ j u, φ j u w' → φ j u w'') → φ i v w'' → K (a'.put o.dst v) w'') →
    if Region.wanted o (yielded ops a'.tmps) = true then o.wp P a' w' K Q else K (a'.put o.dst undef) w'

/-- The frame with all destinations filled. -/
def fillFrom (v : Nat → Value) : List Oper → Nat → Act → Act
  | [], _, a => a
  | o :: l, k, a => fillFrom v l (k + 1) (a.put o.dst (v k))

structure Mid (ops : Array Oper) (a : Act) (I : Array Bool → World → Prop) (φ : Nat → Value → World → Prop) (listed : Array Bool) (a' : Act) (w' : World) : Prop where
  inv : I listed w'
  size : a'.tmps.size = a.tmps.size
  defers : a'.defers = a.defers
  len : listed.size = ops.size
  closed : ∀ j o, ops[j]? = some o → listed.getD j false = true → ∀ e ∈ o.after.toList, Region.binds .any e = true → listed.getD e.on false = true
  has : ∀ j o t, ops[j]? = some o → listed.getD j false = true → o.dst = some t → φ j (a'.tmps.getD t undef) w'
  bare : ∀ j o, ops[j]? = some o → listed.getD j false = true → o.dst = none → ∃ u, φ j u w'
  old : ∀ t, (∀ j o, ops[j]? = some o → listed.getD j false = true → o.dst ≠ some t) → a'.tmps.getD t undef = a.tmps.getD t undef

theorem put_getD_same (a : Act) (t : Nat) (v : Value) (h : t < a.tmps.size) : (a.put (some t) v).tmps.getD t undef = v := by
  simp [Act.put, h]
theorem put_getD_other (a : Act) (t s : Nat) (v : Value) (h : s ≠ t) : (a.put (some t) v).tmps.getD s undef = a.tmps.getD s undef := by
  simp [Act.put, Array.getD_eq_getD_getElem?, Array.getElem?_setIfInBounds, Ne.symm h]
theorem put_size (a : Act) (d : Option Tmp) (v : Value) : (a.put d v).tmps.size = a.tmps.size := by
  cases d <;> simp [Act.put]
theorem put_defers (a : Act) (d : Option Tmp) (v : Value) : (a.put d v).defers = a.defers := by
  cases d <;> rfl

theorem apart_lt {n i : Nat} {o : Oper} {t : Nat} (h : apartB ops n = true) (ho : ops[i]? = some o) (hd : o.dst = some t) : t < n := by
  have hi : i < ops.size := (Array.getElem?_eq_some_iff.1 ho).1
  have := List.all_eq_true.1 h i (List.mem_range.2 hi)
  simp only [ho, hd, Bool.and_eq_true, decide_eq_true_eq] at this
  exact this.1
theorem apart_ne {n i j : Nat} {o o' : Oper} {t : Nat} (h : apartB ops n = true) (ho : ops[i]? = some o) (ho' : ops[j]? = some o') (hd : o.dst = some t) (hd' : o'.dst = some t) : i = j := by
  have hi : i < ops.size := (Array.getElem?_eq_some_iff.1 ho).1
  have hj : j < ops.size := (Array.getElem?_eq_some_iff.1 ho').1
  have := List.all_eq_true.1 h i (List.mem_range.2 hi)
  simp only [ho, hd, Bool.and_eq_true] at this
  have h2 := List.all_eq_true.1 this.2 j (List.mem_range.2 hj)
  simp only [ho', hd'] at h2
  simpa using h2

theorem getD_set (l : Array Bool) (i j : Nat) (hi : i < l.size) : (l.setIfInBounds i true).getD j false = if j = i then true else l.getD j false := by
  simp only [Array.getD_eq_getD_getElem?, Array.getElem?_setIfInBounds]
  by_cases h : i = j
  · subst h; simp [hi]
  · simp [h, Ne.symm h]

theorem Mid.step {a : Act} {I : Array Bool → World → Prop} {φ : Nat → Value → World → Prop} {listed : Array Bool} {a' : Act} {w' w'' : World} {i : Nat} {o : Oper} {v : Value}
    (hap : apartB ops a.tmps.size = true) (h : Mid ops a I φ listed a' w') (ho : ops[i]? = some o) (hn : listed.getD i true = false)
    (hb : ∀ e ∈ o.after.toList, Region.binds .any e = true → listed.getD e.on false = true)
    (hI : I (listed.setIfInBounds i true) w'') (hφ : ∀ j u, φ j u w' → φ j u w'') (hv : φ i v w'') : Mid ops a I φ (listed.setIfInBounds i true) (a'.put o.dst v) w'' := by
  have hi : i < ops.size := (Array.getElem?_eq_some_iff.1 ho).1
  have hil : i < listed.size := by rw [h.len]; exact hi
  refine ⟨hI, by rw [put_size, h.size], by rw [put_defers, h.defers], by simp [h.len], ?_, ?_, ?_, ?_⟩
  · intro j oj hj hl e he hbe
    rw [getD_set _ _ _ hil] at hl ⊢
    by_cases hji : j = i
    · subst hji
      rw [ho] at hj
      cases hj
      split
      · rfl
      · exact hb e he hbe
    · rw [if_neg hji] at hl
      split
      · rfl
      · exact h.closed j oj hj hl e he hbe
  · intro j oj t hj hl hd
    rw [getD_set _ _ _ hil] at hl
    by_cases hji : j = i
    · subst hji
      rw [ho] at hj
      cases hj
      rw [hd, put_getD_same _ _ _ (by rw [h.size]; exact apart_lt hap ho hd)]
      exact hv
    · rw [if_neg hji] at hl
      have h1 := hφ j _ (h.has j oj t hj hl hd)
      cases hdi : o.dst with
      | none => exact h1
      | some s =>
        have hst : t ≠ s := fun e => hji (by subst e; exact apart_ne hap hj ho hd hdi)
        rw [put_getD_other _ _ _ _ hst]
        exact h1
  · intro j oj hj hl hd
    rw [getD_set _ _ _ hil] at hl
    by_cases hji : j = i
    · subst hji
      exact ⟨v, hv⟩
    · rw [if_neg hji] at hl
      obtain ⟨u, hu⟩ := h.bare j oj hj hl hd
      exact ⟨u, hφ j u hu⟩
  · intro t ht
    have h1 : ∀ j oj, ops[j]? = some oj → listed.getD j false = true → oj.dst ≠ some t := by
      intro j oj hj hl
      refine ht j oj hj ?_
      rw [getD_set _ _ _ hil]
      split
      · rfl
      · exact hl
    have h2 : o.dst ≠ some t := ht i o ho (by rw [getD_set _ _ _ hil, if_pos rfl])
    rw [← h.old t h1]
    cases hdi : o.dst with
    | none => rfl
    | some s => exact put_getD_other _ _ _ _ (fun e => h2 (by rw [hdi, e]))

theorem outline_walk {a : Act} {I : Array Bool → World → Prop} {φ : Nat → Value → World → Prop} (hap : apartB ops a.tmps.size = true)
    (ok : ∀ i o, ops[i]? = some o → OpOk P ops Q a I φ i o)
    (fin : ∀ listed a' w', Mid ops a I φ listed a' w' → (∀ i, i < ops.size → listed.getD i false = true) → Q .normal a' w')
    (acyc : ∀ listed : Array Bool, listed.size = ops.size → Region.ready .any ops listed = [] → ∀ i, i < ops.size → listed.getD i false = true) :
    ∀ fuel listed a' w', Mid ops a I φ listed a' w' → (fuel + (listed.toList.filter id).length = ops.size) → wpAny P .any ops Q fuel listed a' w' := by
  intro fuel
  induction fuel with
  | zero =>
    intro listed a' w' h hf
    have hall : ∀ i, i < ops.size → listed.getD i false = true := by
      intro i hi
      have h1 : (listed.toList.filter id).length = listed.toList.length := by
        have := h.len
        have h3 : listed.toList.length = listed.size := Array.length_toList
        omega
      have h2 := List.length_filter_eq_length_iff.1 h1
      have hil : i < listed.size := by rw [h.len]; exact hi
      have := h2 listed[i] (by simp)
      simpa [Array.getD_eq_getD_getElem?, hil] using this
    refine ⟨?_, fin listed a' w' h hall⟩
    unfold Region.ready
    rw [List.filter_eq_nil_iff]
    intro i hi
    have h1 := hall i (List.mem_range.1 hi)
    have h2 : listed.getD i true = true := by
      have hil : i < listed.size := by rw [h.len]; exact List.mem_range.1 hi
      simpa [Array.getD_eq_getD_getElem?, hil] using h1
    simp [h2]
  | succ fuel ih =>
    intro listed a' w' h hf
    refine ⟨fun hr => fin listed a' w' h (acyc listed h.len hr), ?_⟩
    intro i hi
    unfold Region.ready at hi
    obtain ⟨hi1, hi2⟩ := List.mem_filter.1 hi
    have hi1 := List.mem_range.1 hi1
    have ho : ops[i]? = some ops[i] := Array.getElem?_eq_getElem hi1
    simp only [ho, Option.map_some, Option.getD_some, Bool.and_eq_true, Bool.not_eq_true'] at hi2
    obtain ⟨hn, hb⟩ := hi2
    have hil : i < listed.size := by rw [h.len]; exact hi1
    have hnf : listed.getD i false = false := by
      simpa [Array.getD_eq_getD_getElem?, hil] using hn
    have hb' : ∀ e ∈ ops[i].after.toList, Region.binds .any e = true → listed.getD e.on false = true := by
      intro e he hbe
      have h1 := Array.all_eq_true_iff_forall_mem.1 hb e (by simpa using he)
      simpa [hbe] using h1
    refine wpOp_step ho (fun K' hK => ?_)
    have hcl : ∀ j k, edgeB ops j k = true → listed.getD k false = false → listed.getD j false = false := by
      intro j k hjk hk
      unfold edgeB at hjk
      cases hoj : ops[j]? with
      | none => rw [hoj] at hjk; cases hjk
      | some oj =>
        rw [hoj] at hjk
        obtain ⟨e, he, h2⟩ := Array.any_eq_true'.1 hjk
        simp only [Bool.and_eq_true, beq_iff_eq] at h2
        cases hx : listed.getD j false with
        | false => rfl
        | true =>
          have h3 := h.closed j oj hoj hx e (by simpa using he) h2.1
          rw [h2.2, hk] at h3
          cases h3
    refine ok i ops[i] ho listed a' w' K' h.inv hcl h.len hnf ?_ ?_ ?_
    · intro j t hdep
      unfold depB at hdep
      rw [ho] at hdep
      cases hoj : ops[j]? with
      | none => rw [hoj] at hdep; cases hdep
      | some oj =>
        rw [hoj] at hdep
        simp only [Bool.and_eq_true, beq_iff_eq] at hdep
        obtain ⟨e, he, h2⟩ := Array.any_eq_true'.1 hdep.2
        simp only [Bool.and_eq_true, beq_iff_eq] at h2
        have h3 := hb' e (by simpa using he) h2.1
        rw [h2.2] at h3
        exact h.has j oj t hoj h3 hdep.1
    · intro t ht
      refine h.old t ?_
      intro j oj hj hl hd
      have hj1 : j < ops.size := (Array.getElem?_eq_some_iff.1 hj).1
      have h1 := List.all_eq_true.1 ht j (List.mem_range.2 hj1)
      simp only [hj, hd] at h1
      simp only [bne_self_eq_false, Bool.false_or, Bool.or_eq_true, beq_iff_eq] at h1
      rcases h1 with h1 | h1
      · subst h1
        rw [hnf] at hl
        cases hl
      · obtain ⟨e, he, h2⟩ := Array.any_eq_true'.1 h1
        simp only [Bool.and_eq_true, beq_iff_eq] at h2
        have h3 := h.closed j oj hj hl e (by simpa using he) h2.1
        rw [h2.2, hnf] at h3
        cases h3
    · intro v w'' hI hφ hv
      refine hK _ _ (ih _ _ _ (h.step hap ho hn hb' hI hφ hv) ?_)
      have hset : ((listed.setIfInBounds i true).toList.filter id).length = (listed.toList.filter id).length + 1 := by
        have hg : listed.toList[i]'(by simpa using hil) = false := by
          simpa [Array.getD_eq_getD_getElem?, hil] using hnf
        rw [Array.toList_setIfInBounds]
        have key : ∀ (l : List Bool) (i : Nat) (h : i < l.length), l[i] = false → ((l.set i true).filter id).length = (l.filter id).length + 1 := by
          intro l
          induction l with
          | nil => intro i h; simp at h
          | cons x l ihl =>
            intro i h hx
            cases i with
            | zero => simp only [List.getElem_cons_zero] at hx; subst hx; simp
            | succ i =>
              simp only [List.getElem_cons_succ] at hx
              have := ihl i (by simpa using h) hx
              cases x <;> simp [this]
        exact key _ _ _ hg
      omega

theorem fill_other (v : Nat → Value) (t : Nat) : ∀ (l : List Oper) (k : Nat) (a : Act), (∀ o ∈ l, o.dst ≠ some t) → (fillFrom v l k a).tmps.getD t undef = a.tmps.getD t undef
  | [], _, _, _ => rfl
  | o :: l, k, a, h => by
    rw [fillFrom, fill_other v t l (k + 1) _ (fun o' ho' => h o' (List.mem_cons_of_mem _ ho'))]
    cases hd : o.dst with
    | none => rfl
    | some s => exact put_getD_other _ _ _ _ (fun e => h o (List.mem_cons_self) (by rw [hd, e]))
theorem fill_size (v : Nat → Value) : ∀ (l : List Oper) (k : Nat) (a : Act), (fillFrom v l k a).tmps.size = a.tmps.size
  | [], _, _ => rfl
  | o :: l, k, a => by rw [fillFrom, fill_size v l, put_size]
theorem fill_defers (v : Nat → Value) : ∀ (l : List Oper) (k : Nat) (a : Act), (fillFrom v l k a).defers = a.defers
  | [], _, _ => rfl
  | o :: l, k, a => by rw [fillFrom, fill_defers v l, put_defers]
theorem fill_at (v : Nat → Value) (t : Nat) : ∀ (l : List Oper) (k : Nat) (a : Act) (j : Nat) (o : Oper), l[j]? = some o → o.dst = some t → t < a.tmps.size →
    (∀ i o', l[i]? = some o' → o'.dst = some t → i = j) → (fillFrom v l k a).tmps.getD t undef = v (k + j)
  | [], _, _, _, _, h, _, _, _ => by simp at h
  | o :: l, k, a, 0, o1, h, hd, hs, hu => by
    simp only [List.getElem?_cons_zero, Option.some.injEq] at h
    subst h
    rw [fillFrom, fill_other v t l (k + 1), hd, put_getD_same _ _ _ hs]
    · rfl
    · intro o' ho' hd'
      obtain ⟨i, hi⟩ := List.getElem?_of_mem ho'
      have := hu (i + 1) o' (by simpa using hi) hd'
      omega
  | o :: l, k, a, j + 1, o1, h, hd, hs, hu => by
    simp only [List.getElem?_cons_succ] at h
    rw [fillFrom, fill_at v t l (k + 1) _ j o1 h hd (by rw [put_size]; exact hs) (fun i o' hi hd' => by
      have := hu (i + 1) o' (by simpa using hi) hd'
      omega)]
    congr 1
    omega

/-- Every operation waits for earlier ones alone. -/
def backB (ops : Array Oper) : Bool :=
  (List.range ops.size).all fun i => match ops[i]? with
    | some o => o.after.all fun e => decide (e.on < i)
    | none => true

theorem acyc_of_back (h : backB ops = true) : ∀ listed : Array Bool, listed.size = ops.size → Region.ready .any ops listed = [] → ∀ i, i < ops.size → listed.getD i false = true := by
  intro listed hl hr i
  induction i using Nat.strongRecOn with
  | _ i ih =>
    intro hi
    cases hx : listed.getD i false with
    | true => rfl
    | false =>
      exfalso
      have hil : i < listed.size := by rw [hl]; exact hi
      have hm : i ∈ Region.ready .any ops listed := by
        unfold Region.ready
        refine List.mem_filter.2 ⟨List.mem_range.2 hi, ?_⟩
        have ho : ops[i]? = some ops[i] := Array.getElem?_eq_getElem hi
        simp only [ho, Option.map_some, Option.getD_some, Bool.and_eq_true, Bool.not_eq_true']
        refine ⟨by simpa [Array.getD_eq_getD_getElem?, hil] using hx, ?_⟩
        rw [Array.all_eq_true_iff_forall_mem]
        intro e he
        have h1 := List.all_eq_true.1 h i (List.mem_range.2 hi)
        simp only [ho] at h1
        have h2 := Array.all_eq_true_iff_forall_mem.1 h1 e he
        have h3 : e.on < i := by simpa using h2
        rw [ih e.on h3 (by omega)]
        simp
      rw [hr] at hm
      cases hm

/-- THE RULE. -/
theorem region_outline {id : Nat} {a : Act} {w : World} (I : Array Bool → World → Prop) (φ : Nat → Value → World → Prop) (hm : P.follows .mixedOrders = true)
    (hap : apartB ops a.tmps.size = true) (hback : backB ops = true) (hI : I (Array.replicate ops.size false) w.drew)
    (ok : ∀ i o, ops[i]? = some o → OpOk P ops Q a I φ i o)
    (fin : ∀ (l : Array Bool) (v : Nat → Value) (w' : World), l.size = ops.size → (∀ i, i < ops.size → l.getD i false = true) → I l w' → (∀ j, j < ops.size → φ j (v j) w') → Q .normal (fillFrom v ops.toList 0 a) w') : (Code.region id ops true).wp P Q a w := by
  refine wp_region_any hm ?_
  refine outline_walk (I := I) (φ := φ) hap ok ?_ (acyc_of_back hback) ops.size _ _ _ ?_ ?_
  · intro listed a' w' h hall
    have hex : ∀ j, ∃ u, j < ops.size → φ j u w' ∧ ∀ o t, ops[j]? = some o → o.dst = some t → a'.tmps.getD t undef = u := by
      intro j
      by_cases hj : j < ops.size
      · have ho : ops[j]? = some ops[j] := Array.getElem?_eq_getElem hj
        cases hd : ops[j].dst with
        | none =>
          obtain ⟨u, hu⟩ := h.bare j _ ho (hall j hj) hd
          exact ⟨u, fun _ => ⟨hu, fun o t h1 h2 => by rw [ho] at h1; cases h1; rw [hd] at h2; cases h2⟩⟩
        | some t =>
          exact ⟨_, fun _ => ⟨h.has j _ t ho (hall j hj) hd, fun o t' h1 h2 => by rw [ho] at h1; cases h1; rw [hd] at h2; cases h2; rfl⟩⟩
      · exact ⟨undef, fun h => absurd h hj⟩
    have hv := fun j => Classical.choose_spec (hex j)
    have e : a' = fillFrom (fun j => Classical.choose (hex j)) ops.toList 0 a := by
      have hsz : a'.tmps = (fillFrom (fun j => Classical.choose (hex j)) ops.toList 0 a).tmps := by
        apply Array.ext
        · rw [fill_size, h.size]
        · intro t h1 h2
          have key : a'.tmps.getD t undef = (fillFrom (fun j => Classical.choose (hex j)) ops.toList 0 a).tmps.getD t undef := by
            by_cases hc : ∃ (j : Nat) (o : Oper), ops[j]? = some o ∧ o.dst = some t
            · obtain ⟨j, o, ho, hd⟩ := hc
              have hj : j < ops.size := (Array.getElem?_eq_some_iff.1 ho).1
              rw [fill_at _ t ops.toList 0 a j o (by simpa using ho) hd (apart_lt hap ho hd) (fun i o' hi hd' => apart_ne hap (by simpa using hi) ho hd' hd)]
              rw [Nat.zero_add]
              exact (hv j hj).2 o t ho hd
            · have hc' : ∀ (j : Nat) (o : Oper), ops[j]? = some o → o.dst ≠ some t := fun j o ho hd => hc ⟨j, o, ho, hd⟩
              rw [h.old t (fun j o ho _ => hc' j o ho), fill_other _ t ops.toList 0 a (fun o ho hd => by
                obtain ⟨i, hi⟩ := List.getElem?_of_mem ho
                exact hc' i o (by simpa using hi) hd)]
          rw [Array.getD_eq_getD_getElem?, Array.getD_eq_getD_getElem?, Array.getElem?_eq_getElem h1, Array.getElem?_eq_getElem h2] at key
          exact key
      have hdf : a'.defers = (fillFrom (fun j => Classical.choose (hex j)) ops.toList 0 a).defers := by rw [fill_defers, h.defers]
      cases a'
      cases hf : fillFrom (fun j => Classical.choose (hex j)) ops.toList 0 a
      rw [hf] at hsz hdf
      cases hsz
      cases hdf
      rfl
    rw [e]
    exact fin _ _ w' h.len hall h.inv (fun j hj => (hv j hj).1)
  · refine ⟨hI, rfl, rfl, by simp, ?_, ?_, ?_, ?_⟩
    · intro j o hj hl
      simp [Array.getD_eq_getD_getElem?, Array.getElem?_replicate] at hl
      split at hl <;> simp at hl
    · intro j o t hj hl
      simp [Array.getD_eq_getD_getElem?, Array.getElem?_replicate] at hl
      split at hl <;> simp at hl
    · intro j o hj hl
      simp [Array.getD_eq_getD_getElem?, Array.getElem?_replicate] at hl
      split at hl <;> simp at hl
    · intro t _
      rfl
  · simp

/-! The rule over a list of properties. -/
def nth (L : List (Value → World → Prop)) (j : Nat) : Value → World → Prop := L.getD j (fun _ _ => True)
def OkAll (P : Program) (ops : Array Oper) (Q : Exit → Act → World → Prop) (a : Act) (I : Array Bool → World → Prop) (L : List (Value → World → Prop)) : List Oper → Nat → Prop
  | [], _ => True
  | o :: l, k => OpOk P ops Q a I (nth L) k o ∧ OkAll P ops Q a I L l (k + 1)
theorem ok_all {a : Act} {I : Array Bool → World → Prop} {L : List (Value → World → Prop)} : ∀ (l : List Oper) (k : Nat), OkAll P ops Q a I L l k → ∀ i o, l[i]? = some o → OpOk P ops Q a I (nth L) (k + i) o
  | [], _, _, i, o, h => by simp at h
  | o :: l, k, h, 0, o', h' => by
    simp only [List.getElem?_cons_zero, Option.some.injEq] at h'
    subst h'
    exact h.1
  | o :: l, k, h, i + 1, o', h' => by
    have := ok_all l (k + 1) h.2 i o' (by simpa using h')
    rwa [show k + 1 + i = k + (i + 1) by omega] at this
def FinGoal (Q : Exit → Act → World → Prop) (w' : World) : List (Value → World → Prop) → List Oper → Act → Prop
  | p :: L, o :: l, a => ∀ v, p v w' → FinGoal Q w' L l (a.put o.dst v)
  | _, _, a => Q .normal a w'
theorem fin_goal {w' : World} (v : Nat → Value) : ∀ (L : List (Value → World → Prop)) (l : List Oper) (k : Nat) (a : Act), L.length = l.length → FinGoal Q w' L l a →
    (∀ j, j < l.length → nth L j (v (k + j)) w') → Q .normal (fillFrom v l k a) w'
  | [], [], _, _, _, h, _ => h
  | p :: L, o :: l, k, a, hl, h, hv => by
    refine fin_goal v L l (k + 1) _ (by simpa using hl) (h (v k) (hv 0 (by simp))) (fun j hj => ?_)
    have := hv (j + 1) (by simpa using hj)
    rw [show k + 1 + j = k + (j + 1) by omega]
    exact this
  | [], _ :: _, _, _, hl, _, _ => by simp at hl
  | _ :: _, [], _, _, hl, _, _ => by simp at hl

theorem region_byL {id : Nat} {a : Act} {w : World} (I : Array Bool → World → Prop) (L : List (Value → World → Prop)) (hm : P.follows .mixedOrders = true)
    (hap : apartB ops a.tmps.size = true) (hback : backB ops = true) (hlen : L.length = ops.toList.length) (hI : I (Array.replicate ops.size false) w.drew)
    (ok : OkAll P ops Q a I L ops.toList 0) (fin : ∀ l w', l.size = ops.size → (∀ i, i < ops.size → l.getD i false = true) → I l w' → FinGoal Q w' L ops.toList a) : (Code.region id ops true).wp P Q a w := by
  refine region_outline I (nth L) hm hap hback hI (fun i o h => ?_) (fun l v w' hl1 hl2 hI' hv => ?_)
  · have := ok_all ops.toList 0 ok i o (by simpa using h)
    rwa [Nat.zero_add] at this
  · exact fin_goal v L ops.toList 0 a hlen (fin l w' hl1 hl2 hI') (fun j hj => by rw [Nat.zero_add]; exact hv j (by simpa using hj))

/-- The rule where the invariant is of the world alone. -/
def OpOk1 (P : Program) (ops : Array Oper) (Q : Exit → Act → World → Prop) (a : Act) (I : World → Prop) (φ : Nat → Value → World → Prop) (i : Nat) (o : Oper) : Prop :=
  ∀ (a' : Act) (w' : World) (K : Act → World → Prop), I w' →
    (∀ j t, depB ops i j t = true → φ j (a'.tmps.getD t undef) w') →
    (∀ t, quietB ops i t = true → a'.tmps.getD t undef = a.tmps.getD t undef) →
    (∀ v w'', I w'' → (∀ j u, φ j u w' → φ j u w'') → φ i v w'' → K (a'.put o.dst v) w'') →
    if Region.wanted o (yielded ops a'.tmps) = true then o.wp P a' w' K Q else K (a'.put o.dst undef) w'
def OkAll1 (P : Program) (ops : Array Oper) (Q : Exit → Act → World → Prop) (a : Act) (I : World → Prop) (L : List (Value → World → Prop)) : List Oper → Nat → Prop
  | [], _ => True
  | o :: l, k => OpOk1 P ops Q a I (nth L) k o ∧ OkAll1 P ops Q a I L l (k + 1)
theorem ok_of_1 {a : Act} {I : World → Prop} {L : List (Value → World → Prop)} : ∀ (l : List Oper) (k : Nat), OkAll1 P ops Q a I L l k → OkAll P ops Q a (fun _ w' => I w') L l k
  | [], _, _ => trivial
  | _ :: l, k, h => ⟨fun _ a' w' K hI _ _ _ hd hq hK => h.1 a' w' K hI hd hq hK, ok_of_1 l (k + 1) h.2⟩
theorem region_by {id : Nat} {a : Act} {w : World} (I : World → Prop) (L : List (Value → World → Prop)) (hm : P.follows .mixedOrders = true)
    (hap : apartB ops a.tmps.size = true) (hback : backB ops = true) (hlen : L.length = ops.toList.length) (hI : I w.drew)
    (ok : OkAll1 P ops Q a I L ops.toList 0) (fin : ∀ w', I w' → FinGoal Q w' L ops.toList a) : (Code.region id ops true).wp P Q a w :=
  region_byL (fun _ w' => I w') L hm hap hback hlen hI (ok_of_1 ops.toList 0 ok) (fun _ w' _ _ hI' => fin w' hI')

/-- An operation that gives a value and leaves the world. -/
theorem op_value {a' : Act} {w' w'' : World} {K : Act → World → Prop} {o : Oper} {v : Value} (hw : Region.wanted o (yielded ops a'.tmps) = true) (hrun : (execOp a'.eval o).run P w' = .ok (.value v) w'') (hK : K (a'.put o.dst v) w'') :
    if Region.wanted o (yielded ops a'.tmps) = true then o.wp P a' w' K Q else K (a'.put o.dst undef) w' := by
  rw [if_pos hw]
  unfold Oper.wp
  rw [hrun]
  exact hK
/-- A call of a Go function, by its contract. -/
theorem op_call {a' : Act} {w' : World} {K : Act → World → Prop} {o : Oper} {f : FuncId} {fn : Func} {xs : Array Operand} {ts : Array TypeId} (args : Array Value) (hw : Region.wanted o (yielded ops a'.tmps) = true)
    (hop : o.op = .call { callee := .value (.func f), args := xs, argTypes := ts }) (hf : P.funcs[f]? = some fn) (hname : (fn.name == "runtime.NumGoroutine") = false) (hb : fn.body.isSome = true)
    (hargs : xs.map a'.eval = args) (h : Calls P f args w' fun e w'' => ∃ v, e = .returned v ∧ K (a'.put o.dst v) w'') :
    if Region.wanted o (yielded ops a'.tmps) = true then o.wp P a' w' K Q else K (a'.put o.dst undef) w' := by
  rw [if_pos hw]
  have h1 : fn.name ≠ "runtime.NumGoroutine" := by simpa using hname
  obtain ⟨c, hc⟩ := Option.isSome_iff_exists.1 hb
  have he : (callFunc f args).run P w' = .ok (.enter f args) w' := by simp [callFunc, hf, h1, hc]
  have hrun : (execOp a'.eval o).run P w' = .ok (.enter f args) w' := by
    unfold execOp
    simp [hop, resolve, Deferred.ofValue, invoke, Act.eval, hargs, he]
  unfold Oper.wp
  rw [hrun, Oper.upon_enter]
  refine h.mono fun e w'' hh => ?_
  obtain ⟨v, rfl, hk⟩ := hh
  exact hk
theorem wanted_free (o : Oper) (y : Nat → Option Bool) (h : o.guard = none) : Region.wanted o y = true := by simp [Region.wanted, h]
theorem wanted_on (o : Oper) (a' : Act) (j t : Nat) (b : Bool) (h : o.guard = some (j, b)) (ht : (ops[j]?).bind (·.dst) = some t) (hv : a'.tmps.getD t undef = .bool b) : Region.wanted o (yielded ops a'.tmps) = true := by
  cases ho : ops[j]? with
  | none => rw [ho] at ht; cases ht
  | some oj =>
    rw [ho] at ht
    have ht' : oj.dst = some t := ht
    rw [Array.getD_eq_getD_getElem?] at hv
    cases hx : a'.tmps[t]? with
    | none => rw [hx] at hv; simp [undef] at hv
    | some u =>
      rw [hx] at hv
      have hv' : u = .bool b := hv
      simp [Region.wanted, h, yielded, ho, ht', hx, hv']

end Go.Proofs.Ytjakhemolecbnaa
end

/-
  The walks of wal's Log, of few, Texts and slices.Clone of strings.
-/
section
set_option linter.unusedVariables false
set_option linter.unusedSimpArgs false
namespace Go.Proofs.Ytjakhemolecbnaa
open Go.RowKit

/-- A slice of strings that reads as L. -/
abbrev RS (w : World) (A : Option Addr) (L : List (List UInt8)) : Prop := RC w A (sv L)
theorem RC.parts {w : World} {A : Option Addr} {l : List Value} (h : RC w A l) (h0 : 0 < l.length) :
    ∃ b o, A = some ⟨b, o, none⟩ ∧ ∀ j u, l[j]? = some u → w.cell? ⟨b, o + j, none⟩ = some u := by
  obtain ⟨⟨b, o, sp⟩, e, hc⟩ := h h0
  have hsp : sp = none := by
    have := hc 0 _ (List.getElem?_eq_getElem h0)
    simp only [Addr.add, if_true] at this
    unfold World.cell? at this
    cases sp with
    | none => rfl
    | some s => simp at this; split at this <;> simp at this
  subst hsp
  refine ⟨b, o, e, fun j u hj => ?_⟩
  have := hc j u hj
  rwa [add_off] at this
theorem sv_get (L : List (List UInt8)) (i : Nat) (h : i < L.length) : (sv L)[i]? = some (.string ⟨L[i].toArray⟩) := by simp [sv, List.getElem?_eq_getElem h]

/-- The string of bytes: unlike bytes, unlike strings. -/
def strB (l : List UInt8) : ByteArray := ⟨l.toArray⟩
theorem strB_inj {a b : List UInt8} (h : strB a = strB b) : a = b := by
  have := congrArg (fun x => x.data.toList) h
  simpa [strB] using this
theorem strB_data (s : ByteArray) : strB s.data.toList = s := data_eq s
theorem strB_size (l : List UInt8) : (strB l).size = l.length := by show l.toArray.size = _; simp
theorem sv_get' (L : List (List UInt8)) (i : Nat) (h : i < L.length) : (sv L)[i]? = some (.string (strB L[i])) := sv_get L i h

namespace LogAt
variable {w w' : World} {B pl pd : Nat} {va vd : Value} {recs : List (List UInt8)} {b : List UInt8} {safe : Nat}
/-- The blocks that a log's calls may turn. -/
def foot (pl pd : Nat) (va vd : Value) (k : Nat) : Prop := k = pl ∨ k = pd ∨ va.ownBlock = some k ∨ vd.ownBlock = some k
end LogAt

theorem strB_toList (l : List UInt8) : (strB l).data.toList = l := by simp [strB]

end Go.Proofs.Ytjakhemolecbnaa
end

/-
  Records, the tests that are made of them, and whether a row of records holds one that passes.
-/
section
set_option linter.unusedVariables false
set_option linter.unusedSimpArgs false
namespace Go.Proofs.Ytjakhemolecbnaa
open Go.RowKit

/-- A record as it lies in memory: its kind, its transaction, its groups' slice, its body. -/
structure Rm where
  kind : Int
  tx : List UInt8
  A : Option Addr
  c : Nat
  groups : List Int
  body : List UInt8
def Rm.cells (m : Rm) : List Value := [.int .i64 m.kind, .string (strB m.tx), .slice m.A m.groups.length m.c, .string (strB m.body)]
def rmc (l : List Rm) : List Value := l.flatMap Rm.cells
theorem rmc_length (l : List Rm) : (rmc l).length = l.length * 4 := by
  induction l with
  | nil => rfl
  | cons m l ih =>
    have e : rmc (m :: l) = m.cells ++ rmc l := rfl
    rw [e, List.length_append, ih, List.length_cons]
    show 4 + l.length * 4 = _
    omega
theorem rmc_append (l m : List Rm) : rmc (l ++ m) = rmc l ++ rmc m := by simp [rmc]
theorem rmc_take (l : List Rm) (i : Nat) (h : i ≤ l.length) : (rmc l).take (i * 4) = rmc (l.take i) := by
  conv => lhs; rw [← List.take_append_drop i l, rmc_append]
  have e : i * 4 = (rmc (l.take i)).length := by rw [rmc_length, List.length_take]; omega
  rw [e]
  exact List.take_left
theorem rmc_get (l : List Rm) (i : Nat) (h : i < l.length) : (rmc l)[i * 4]? = some (.int .i64 l[i].kind) ∧ (rmc l)[i * 4 + 1]? = some (.string (strB l[i].tx)) ∧ (rmc l)[i * 4 + 2]? = some (.slice l[i].A l[i].groups.length l[i].c) ∧ (rmc l)[i * 4 + 3]? = some (.string (strB l[i].body)) := by
  have e : (rmc l).drop (i * 4) = l[i].cells ++ rmc (l.drop (i + 1)) := by
    have h1 : l = l.take i ++ l[i] :: l.drop (i + 1) := by
      conv => lhs; rw [← List.take_append_drop i l, List.drop_eq_getElem_cons h]
    have h2 : rmc l = rmc (l.take i) ++ (l[i].cells ++ rmc (l.drop (i + 1))) := by
      refine (congrArg rmc h1).trans ?_
      rw [rmc_append]
      rfl
    have h3 : i * 4 = (rmc (l.take i)).length := by rw [rmc_length, List.length_take]; omega
    rw [h2, h3]
    exact List.drop_left
  have key : ∀ j, (rmc l)[i * 4 + j]? = (l[i].cells ++ rmc (l.drop (i + 1)))[j]? := fun j => by rw [← e, List.getElem?_drop]
  exact ⟨by have := key 0; rw [Nat.add_zero] at this; rw [this]; rfl, by rw [key 1]; rfl, by rw [key 2]; rfl, by rw [key 3]; rfl⟩
theorem rmc_one (l : List Rm) : ∀ u ∈ rmc l, u.oneCell' = true := by
  intro u hu
  simp only [rmc, List.mem_flatMap] at hu
  obtain ⟨m, _, hm⟩ := hu
  simp only [Rm.cells, List.mem_cons, List.not_mem_nil, or_false] at hm
  rcases hm with rfl | rfl | rfl | rfl <;> rfl
def ofP (k : Int) (s : List UInt8) (m : Rm) : Bool := decide (m.kind = k ∧ m.tx = s)
def strP (s : List UInt8) (zs : List Int) (m : Rm) : Bool := decide (m.kind = 3 ∧ m.tx = s ∧ m.groups ≠ zs)

set_option maxHeartbeats 1000000 in
theorem of_any (k : Int) (s : ByteArray) (w : World) : Calls Try.prog 53 #[.int .i64 k, .string s] w fun e w' => ∃ g, e = .returned (.func (.func 77) #[] #[.pointer (some ⟨g, 0, none⟩), .pointer (some ⟨g + 1, 0, none⟩)]) ∧ w'.cell? ⟨g, 0, none⟩ = some (.int .i64 k) ∧ w'.cell? ⟨g + 1, 0, none⟩ = some (.string s) ∧ Below w.heap.size w w' := by
  have hmf : ∀ (fn : Fn) (first cap : Array Value) (w : World), (Instr.makeFunc fn first cap).run Try.prog w = .ok (.func fn first cap) w := fun _ _ _ _ => rfl
  go_enter Try.func53, Try.ntmps53
  go_wp2_with fail
  go_ret
  refine ⟨w.heap.size, rfl, ?_, ?_, ((Below.refl _ _).alloc (Nat.le_refl _) _).alloc (by simp) _⟩
  · have h := heap_alloc_new w (.cells #[.int .i64 k] 3)
    have h2 := (Below.heap_alloc (w.alloc (.cells #[.int .i64 k] 3)) (.cells #[.string s] 9) w.heap.size (by simp)).trans h
    exact (cell_of_row _ _ 0 _ _ _ h2).trans rfl
  · have h := heap_alloc_new (w.alloc (.cells #[.int .i64 k] 3)) (.cells #[.string s] 9)
    have e : (w.alloc (.cells #[.int .i64 k] 3)).heap.size = w.heap.size + 1 := by simp
    rw [e] at h
    exact (cell_of_row _ _ 0 _ _ _ h).trans rfl

set_option maxHeartbeats 2000000 in
/-- The test that of makes. -/
theorem of1_any (g1 g2 : Nat) (k : Int) (s : List UInt8) (m : Rm) (w : World) (h1 : w.cell? ⟨g1, 0, none⟩ = some (.int .i64 k)) (h2 : w.cell? ⟨g2, 0, none⟩ = some (.string (strB s))) :
    Calls Try.prog 77 #[.agg m.cells.toArray, .pointer (some ⟨g1, 0, none⟩), .pointer (some ⟨g2, 0, none⟩)] w fun e w' => e = .returned (.bool (ofP k s m)) ∧ Below w.heap.size w w' := by
  obtain ⟨mk, mt, mA, mc, mg, mb⟩ := m
  unfold ofP Rm.cells
  dsimp only
  have h1a : ∀ ob, (w.alloc ob).cell? ⟨g1, 0, none⟩ = some (.int .i64 k) := fun ob => Lib.cell?_alloc_some ob h1
  have h2a : ∀ ob, (w.alloc ob).cell? ⟨g2, 0, none⟩ = some (.string (strB s)) := fun ob => Lib.cell?_alloc_some ob h2
  by_cases hk : mk = k
  · subst hk
    by_cases hs : mt = s
    · subst hs
      generalize strB mt = z at *
      generalize strB mb = y
      have hd : decide (mk = mk ∧ mt = mt) = true := by simp
      rw [hd]
      clear hd
      go_enter Try.func77, Try.ntmps77
      go_wp2_with fail
      go_ret
      exact ⟨rfl, (Below.refl _ _).alloc (Nat.le_refl _) _⟩
    · have hd : decide (mk = mk ∧ mt = s) = false := by simp [hs]
      rw [hd]
      have HZF := Lib.hid (show ((strB mt).toList == (strB s).toList) = false by rw [ByteArray.toList_eq, ByteArray.toList_eq, strB_toList, strB_toList]; simpa using hs)
      generalize strB mt = z1 at *
      generalize strB s = z2 at *
      generalize strB mb = y
      clear hd hs
      go_enter Try.func77, Try.ntmps77
      go_wp2_with fail
      go_ret
      exact ⟨ret_bool HZF.out, (Below.refl _ _).alloc (Nat.le_refl _) _⟩
  · have hd : decide (mk = k ∧ mt = s) = false := by simp [hk]
    rw [hd]
    have hk1 : (mk == k) = false := by simpa using hk
    generalize strB mt = z1 at *
    generalize strB s = z2 at *
    generalize strB mb = y
    clear hd hk
    go_enter Try.func77, Try.ntmps77
    go_wp2_with fail
    go_ret
    exact ⟨rfl, (Below.refl _ _).alloc (Nat.le_refl _) _⟩

set_option maxHeartbeats 4000000 in
/-- Whether a row of records holds one that passes the test that of makes. -/
theorem indexOf_any (A : Option Addr) (n c : Nat) (l : List Rm) (g : Nat) (k : Int) (s : List UInt8) (w : World) (hl : l.length = n) (hn : n ≤ 100000000) (hr : RC w A (rmc l)) (h1 : w.cell? ⟨g, 0, none⟩ = some (.int .i64 k)) (h2 : w.cell? ⟨g + 1, 0, none⟩ = some (.string (strB s))) :
    Calls Try.prog 88 #[.slice A n c, .func (.func 77) #[] #[.pointer (some ⟨g, 0, none⟩), .pointer (some ⟨g + 1, 0, none⟩)]] w fun e w' => (∃ r : Int, e = .returned (.int .i64 r) ∧ (0 ≤ r ↔ l.any (ofP k s) = true)) ∧ Below w.heap.size w w' := by
  subst hl
  have HR := Lib.hid hr
  have H1 := Lib.hid h1
  have H2 := Lib.hid h2
  clear hr h1 h2
  go_enter Try.func88, Try.ntmps88
  go_wp2_with fail
  go_loopg [8] l.length (fun gk s8 wr => ∃ i : Nat, i ≤ l.length ∧ gk = l.length - i ∧ s8 = .int .i64 (i : Int) ∧ (∀ j (h : j < l.length), j < i → ofP k s l[j] = false) ∧ Below w.heap.size w wr)
  case atStart => exact ⟨0, Nat.zero_le _, by omega, rfl, fun j _ hj => absurd hj (Nat.not_lt_zero _), Below.refl _ _⟩
  case round =>
    obtain ⟨i, hi, hk, rfl, hz, hb⟩ := hrel
    have HK := Lib.hid hk
    have HZ := Lib.hid hz
    have HB := Lib.hid hb
    clear hk hz hb
    by_cases hlt : i < l.length
    · obtain ⟨b, o, rfl, hc⟩ := RC.part HR.out (by rw [rmc_length]; omega)
      have hg := rmc_get l i hlt
      have q0 := cell_below HB.out (hc _ _ hg.1)
      have q1 := cell_below HB.out (hc _ _ hg.2.1)
      have q2 := cell_below HB.out (hc _ _ hg.2.2.1)
      have q3 := cell_below HB.out (hc _ _ hg.2.2.2)
      rw [← Nat.add_assoc] at q1 q2 q3
      obtain ⟨m, em⟩ : ∃ m, m = l[i] := ⟨_, rfl⟩
      rw [← em] at q0 q1 q2 q3
      have EM := Lib.hid em
      have HLT := Lib.hid hlt
      have i0 : (0 : Int) ≤ (i : Int) := by omega
      have i1 : (i : Int) < (l.length : Int) := by omega
      obtain ⟨mk, mt, mA, mc, mg, mb⟩ := m
      dsimp only at q0 q1 q2 q3
      obtain ⟨z1, hz1⟩ : ∃ z1, z1 = strB mt := ⟨_, rfl⟩
      obtain ⟨z2, hz2⟩ : ∃ z2, z2 = strB mb := ⟨_, rfl⟩
      rw [← hz1] at q1
      rw [← hz2] at q3
      have HQ := Lib.hid (show (⟨mk, mt, mA, mc, mg, mb⟩ : Rm).cells.toArray = #[.int .i64 mk, .string z1, .slice mA mg.length mc, .string z2] by rw [hz1, hz2]; rfl)
      clear hc hg em hi hz1 hz2
      go_wp2_with fail
      rw [← HQ.out]
      refine (of1_any g (g + 1) k s ⟨mk, mt, mA, mc, mg, mb⟩ wr (cell_below HB.out H1.out) (cell_below HB.out H2.out)).mono ?_
      obtain ⟨q, hq⟩ : ∃ q, ofP k s ⟨mk, mt, mA, mc, mg, mb⟩ = q := ⟨_, rfl⟩
      rw [hq]
      rintro e w1 ⟨rfl, hb1⟩
      have HB1 := Lib.hid (below_below HB.out HB.out.size hb1)
      have HQ2 := Lib.hid (show ofP k s (l[i]'HLT.out) = q by rw [← EM.out]; exact hq)
      rw [HQ.out]
      clear hb1 hq q0 q1 q2 q3
      cases q with
      | true =>
        go_wp2_with fail
        go_ret
        exact ⟨⟨_, rfl, fun _ => List.any_eq_true.2 ⟨_, List.getElem_mem HLT.out, HQ2.out⟩, fun _ => by omega⟩, HB1.out⟩
      | false =>
        go_wp2_with fail
        go_roundg (l.length - (i + 1))
        case measure => have := HK.out; have := HLT.out; omega
        case rel =>
          refine ⟨i + 1, HLT.out, rfl, by go_num, fun j hj hji => ?_, HB1.out⟩
          by_cases h : j = i
          · subst h
            exact HQ2.out
          · exact HZ.out j hj (by omega)
    · obtain rfl : i = l.length := by omega
      go_wp2_with fail
      go_ret
      refine ⟨⟨_, rfl, fun h => absurd h (by omega), fun h => ?_⟩, HB.out⟩
      obtain ⟨m, hm, e⟩ := List.any_eq_true.1 h
      obtain ⟨j, hj, e2⟩ := List.getElem_of_mem hm
      have := HZ.out j hj hj
      rw [e2, e] at this
      cases this

set_option maxHeartbeats 1000000 in
theorem containsOf_any (A : Option Addr) (n c : Nat) (l : List Rm) (g : Nat) (k : Int) (s : List UInt8) (w : World) (hl : l.length = n) (hn : n ≤ 100000000) (hr : RC w A (rmc l)) (h1 : w.cell? ⟨g, 0, none⟩ = some (.int .i64 k)) (h2 : w.cell? ⟨g + 1, 0, none⟩ = some (.string (strB s))) :
    Calls Try.prog 76 #[.slice A n c, .func (.func 77) #[] #[.pointer (some ⟨g, 0, none⟩), .pointer (some ⟨g + 1, 0, none⟩)]] w fun e w' => e = .returned (.bool (l.any (ofP k s))) ∧ Below w.heap.size w w' := by
  have HR := Lib.hid hr
  have H1 := Lib.hid h1
  have H2 := Lib.hid h2
  clear hr h1 h2
  go_enter Try.func76, Try.ntmps76
  go_wp2_with fail
  refine (indexOf_any A n c l g k s w hl hn HR.out H1.out H2.out).mono ?_
  rintro e w1 ⟨⟨r, rfl, hr⟩, hb⟩
  have HB := Lib.hid hb
  have HD := Lib.hid (show decide (0 ≤ r) = l.any (ofP k s) by
    cases h : l.any (ofP k s) with
    | true => exact decide_eq_true (hr.2 h)
    | false => exact decide_eq_false fun h2 => by rw [hr.1 h2] at h; cases h)
  clear hr hb
  go_wp2_with fail
  go_ret
  exact ⟨ret_bool HD.out, HB.out⟩
end Go.Proofs.Ytjakhemolecbnaa
end
