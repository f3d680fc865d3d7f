/-
  SHA-256 as plain functions on lists of words and bytes.
-/
import Derived.Test.YthlbmjjodjepjaaBase
set_option linter.unusedVariables false
set_option linter.unusedSimpArgs false
namespace Go.Proofs.Ythlbmjjodjepjaa
open Go.RowKit

def shlW (x : UInt32) (s : Nat) : UInt32 := UInt32.ofNat (x.toNat * 2 ^ s)
def shrW (x : UInt32) (s : Nat) : UInt32 := UInt32.ofNat (x.toNat / 2 ^ s)
/-- x turned right by n (1 to 31). -/
def rotr (x : UInt32) (n : Nat) : UInt32 := shlW x (32 - n) ||| shrW x n
theorem un32_shl (x : UInt32) (s : Nat) : un32 (shlW x s) = un32 x * 2 ^ s % 4294967296 := by
  unfold un32 shlW
  rw [show ∀ n : Nat, (UInt32.ofNat n).toNat = n % 4294967296 from fun n => UInt32.toNat_ofNat']
  rw [Int.natCast_emod, Int.natCast_mul, Int.natCast_pow]; rfl
theorem un32_shr (x : UInt32) (s : Nat) : un32 (shrW x s) = un32 x / 2 ^ s := by
  unfold un32 shrW
  rw [show ∀ n : Nat, (UInt32.ofNat n).toNat = n % 4294967296 from fun n => UInt32.toNat_ofNat']
  have h : x.toNat / 2 ^ s ≤ x.toNat := Nat.div_le_self _ _
  have := x.toNat_lt
  rw [Nat.mod_eq_of_lt (by omega)]
  rw [Int.natCast_ediv, Int.natCast_pow]; rfl
theorem un32_add (x y : UInt32) : un32 (x + y) = (un32 x + un32 y) % 4294967296 := by
  unfold un32
  rw [UInt32.toNat_add]
  omega

def shaK : List UInt32 := [0x428a2f98, 0x71374491, 0xb5c0fbcf, 0xe9b5dba5, 0x3956c25b, 0x59f111f1, 0x923f82a4, 0xab1c5ed5, 0xd807aa98, 0x12835b01, 0x243185be, 0x550c7dc3, 0x72be5d74, 0x80deb1fe, 0x9bdc06a7, 0xc19bf174,
  0xe49b69c1, 0xefbe4786, 0x0fc19dc6, 0x240ca1cc, 0x2de92c6f, 0x4a7484aa, 0x5cb0a9dc, 0x76f988da, 0x983e5152, 0xa831c66d, 0xb00327c8, 0xbf597fc7, 0xc6e00bf3, 0xd5a79147, 0x06ca6351, 0x14292967,
  0x27b70a85, 0x2e1b2138, 0x4d2c6dfc, 0x53380d13, 0x650a7354, 0x766a0abb, 0x81c2c92e, 0x92722c85, 0xa2bfe8a1, 0xa81a664b, 0xc24b8b70, 0xc76c51a3, 0xd192e819, 0xd6990624, 0xf40e3585, 0x106aa070,
  0x19a4c116, 0x1e376c08, 0x2748774c, 0x34b0bcb5, 0x391c0cb3, 0x4ed8aa4a, 0x5b9cca4f, 0x682e6ff3, 0x748f82ee, 0x78a5636f, 0x84c87814, 0x8cc70208, 0x90befffa, 0xa4506ceb, 0xbef9a3f7, 0xc67178f2]
def shaH : List UInt32 := [0x6a09e667, 0xbb67ae85, 0x3c6ef372, 0xa54ff53a, 0x510e527f, 0x9b05688c, 0x1f83d9ab, 0x5be0cd19]
/-- The i-th word of a list. -/
def wd (l : List UInt32) (i : Nat) : UInt32 := l.getD i 0
def bt (l : List UInt8) (i : Nat) : UInt8 := l.getD i 0

/-- Four bytes as a word. -/
def be32 (l : List UInt8) (i : Nat) : UInt32 := shlW (bt l i).toUInt32 24 ||| shlW (bt l (i + 1)).toUInt32 16 ||| shlW (bt l (i + 2)).toUInt32 8 ||| (bt l (i + 3)).toUInt32
def sig0 (a : UInt32) : UInt32 := rotr a 7 ^^^ rotr a 18 ^^^ shrW a 3
def sig1 (a : UInt32) : UInt32 := rotr a 17 ^^^ rotr a 19 ^^^ shrW a 10
/-- The first i words of a block's schedule. -/
def sched (b : List UInt8) : Nat → List UInt32
  | 0 => []
  | i + 1 => sched b i ++ [if i < 16 then be32 b (4 * i) else wd (sched b i) (i - 16) + sig0 (wd (sched b i) (i - 15)) + wd (sched b i) (i - 7) + sig1 (wd (sched b i) (i - 2))]
theorem sched_length (b : List UInt8) (i : Nat) : (sched b i).length = i := by
  induction i with
  | zero => rfl
  | succ i ih => simp [sched, ih]

structure St where
  a : UInt32
  b : UInt32
  c : UInt32
  d : UInt32
  e : UInt32
  f : UInt32
  g : UInt32
  h : UInt32
def St.list (s : St) : List UInt32 := [s.a, s.b, s.c, s.d, s.e, s.f, s.g, s.h]
def bigE (e : UInt32) : UInt32 := rotr e 6 ^^^ rotr e 11 ^^^ rotr e 25
def bigA (a : UInt32) : UInt32 := rotr a 2 ^^^ rotr a 13 ^^^ rotr a 22
def choose3 (e f g : UInt32) : UInt32 := (e &&& f) ^^^ ((e ^^^ 0xffffffff) &&& g)
def major (a b c : UInt32) : UInt32 := ((a &&& b) ^^^ (a &&& c)) ^^^ (b &&& c)
def t1Of (s : St) (k w : UInt32) : UInt32 := s.h + bigE s.e + choose3 s.e s.f s.g + k + w
def t2Of (s : St) : UInt32 := bigA s.a + major s.a s.b s.c
def rnd (s : St) (k w : UInt32) : St := ⟨t1Of s k w + t2Of s, s.a, s.b, s.c, s.d + t1Of s k w, s.e, s.f, s.g⟩
def roundsAt (w : List UInt32) (s : St) : Nat → St
  | 0 => s
  | i + 1 => rnd (roundsAt w s i) (wd shaK i) (wd w i)
def addSt (s t : St) : St := ⟨s.a + t.a, s.b + t.b, s.c + t.c, s.d + t.d, s.e + t.e, s.f + t.f, s.g + t.g, s.h + t.h⟩
def compress (s : St) (blk : List UInt8) : St := addSt s (roundsAt (sched blk 64) s 64)
def h0 : St := ⟨0x6a09e667, 0xbb67ae85, 0x3c6ef372, 0xa54ff53a, 0x510e527f, 0x9b05688c, 0x1f83d9ab, 0x5be0cd19⟩
def stAt (p : List UInt8) : Nat → St
  | 0 => h0
  | i + 1 => compress (stAt p i) ((p.drop (64 * i)).take 64)

/-- How many noughts are filled in. -/
def padZ (n : Nat) : Nat := (119 - n % 64) % 64
theorem padZ_done (n : Nat) : (n + 1 + padZ n) % 64 = 56 := by unfold padZ; omega
theorem padZ_not (n j : Nat) (h : j < padZ n) : (n + 1 + j) % 64 ≠ 56 := by unfold padZ at h; omega
theorem padZ_lt (n : Nat) : padZ n < 64 := by unfold padZ; omega
/-- The low byte of n / 2 ^ k. -/
def byteAt (n k : Nat) : UInt8 := UInt8.ofNat (n / 2 ^ k)
/-- The first j of the eight bytes of a number. -/
def lenBytes (n : Nat) (j : Nat) : List UInt8 := (List.range j).map fun i => byteAt n (56 - 8 * i)
def padOf (l : List UInt8) : List UInt8 := l ++ 128 :: List.replicate (padZ l.length) 0 ++ lenBytes (l.length * 8) 8
theorem lenBytes_length (n j : Nat) : (lenBytes n j).length = j := by simp [lenBytes]
theorem padOf_length (l : List UInt8) : (padOf l).length = l.length + 1 + padZ l.length + 8 := by
  simp only [padOf, List.length_append, List.length_cons, List.length_replicate, lenBytes_length]; omega
theorem padOf_mod (l : List UInt8) : (padOf l).length % 64 = 0 := by rw [padOf_length]; have := padZ_done l.length; omega
def be4 (x : UInt32) : List UInt8 := [UInt8.ofNat (x.toNat / 2 ^ 24), UInt8.ofNat (x.toNat / 2 ^ 16), UInt8.ofNat (x.toNat / 2 ^ 8), UInt8.ofNat x.toNat]
def shaOf (l : List UInt8) : List UInt8 := (stAt (padOf l) ((padOf l).length / 64)).list.flatMap be4
theorem shaOf_length (l : List UInt8) : (shaOf l).length = 32 := by simp [shaOf, St.list, be4]

end Go.Proofs.Ythlbmjjodjepjaa
