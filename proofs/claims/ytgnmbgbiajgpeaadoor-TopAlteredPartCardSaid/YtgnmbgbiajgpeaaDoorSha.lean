/-
  SHA-256 as a plain function on lists of bytes. Nothing here names a program.
-/
import Derived.Test.YtgnmbgbiajgpeaaDoorV2
namespace Go.Proofs.YtgnmbgbiajgpeaaDoor
open Go Go.RowKit

abbrev W32 := BitVec 32

def rotr (x : W32) (n : Nat) : W32 := x >>> n ||| x <<< (32 - n)

def shaK : List Nat := [
  0x428a2f98, 0x71374491, 0xb5c0fbcf, 0xe9b5dba5, 0x3956c25b, 0x59f111f1, 0x923f82a4, 0xab1c5ed5,
  0xd807aa98, 0x12835b01, 0x243185be, 0x550c7dc3, 0x72be5d74, 0x80deb1fe, 0x9bdc06a7, 0xc19bf174,
  0xe49b69c1, 0xefbe4786, 0x0fc19dc6, 0x240ca1cc, 0x2de92c6f, 0x4a7484aa, 0x5cb0a9dc, 0x76f988da,
  0x983e5152, 0xa831c66d, 0xb00327c8, 0xbf597fc7, 0xc6e00bf3, 0xd5a79147, 0x06ca6351, 0x14292967,
  0x27b70a85, 0x2e1b2138, 0x4d2c6dfc, 0x53380d13, 0x650a7354, 0x766a0abb, 0x81c2c92e, 0x92722c85,
  0xa2bfe8a1, 0xa81a664b, 0xc24b8b70, 0xc76c51a3, 0xd192e819, 0xd6990624, 0xf40e3585, 0x106aa070,
  0x19a4c116, 0x1e376c08, 0x2748774c, 0x34b0bcb5, 0x391c0cb3, 0x4ed8aa4a, 0x5b9cca4f, 0x682e6ff3,
  0x748f82ee, 0x78a5636f, 0x84c87814, 0x8cc70208, 0x90befffa, 0xa4506ceb, 0xbef9a3f7, 0xc67178f2]

def shaK_at (t : Nat) : W32 := BitVec.ofNat 32 (shaK.getD t 0)

structure S8 where
  a : W32
  b : W32
  c : W32
  d : W32
  e : W32
  f : W32
  g : W32
  h : W32

def shaH0 : S8 := ⟨0x6a09e667#32, 0xbb67ae85#32, 0x3c6ef372#32, 0xa54ff53a#32, 0x510e527f#32, 0x9b05688c#32, 0x1f83d9ab#32, 0x5be0cd19#32⟩

def byteW (l : List UInt8) (i : Nat) : W32 := BitVec.ofNat 32 (l.getD i 0).toNat
def wordAt (l : List UInt8) (t : Nat) : W32 := byteW l (4 * t) <<< 24 ||| byteW l (4 * t + 1) <<< 16 ||| byteW l (4 * t + 2) <<< 8 ||| byteW l (4 * t + 3)

def sig0 (y : W32) : W32 := rotr y 7 ^^^ rotr y 18 ^^^ y >>> 3
def sig1 (x : W32) : W32 := rotr x 17 ^^^ rotr x 19 ^^^ x >>> 10
def schedStep (w : List W32) (t : Nat) : W32 := sig1 (w.getD (t - 2) 0) + w.getD (t - 7) 0 + sig0 (w.getD (t - 15) 0) + w.getD (t - 16) 0

/-- The first t words of the schedule of a block. -/
def sched (l : List UInt8) : Nat → List W32
  | 0 => []
  | t + 1 => sched l t ++ [if t < 16 then wordAt l t else schedStep (sched l t) t]

def rnd (s : S8) (k w : W32) : S8 :=
  let t1 := s.h + (rotr s.e 6 ^^^ rotr s.e 11 ^^^ rotr s.e 25) + ((s.e &&& s.f) ^^^ (~~~s.e &&& s.g)) + k + w
  let t2 := (rotr s.a 2 ^^^ rotr s.a 13 ^^^ rotr s.a 22) + ((s.a &&& s.b) ^^^ (s.a &&& s.c) ^^^ (s.b &&& s.c))
  ⟨t1 + t2, s.a, s.b, s.c, s.d + t1, s.e, s.f, s.g⟩

def rounds (w : List W32) (s : S8) : Nat → S8
  | 0 => s
  | t + 1 => rnd (rounds w s t) (shaK_at t) (w.getD t 0)

def S8.add (x y : S8) : S8 := ⟨x.a + y.a, x.b + y.b, x.c + y.c, x.d + y.d, x.e + y.e, x.f + y.f, x.g + y.g, x.h + y.h⟩
def compress (s : S8) (l : List UInt8) : S8 := s.add (rounds (sched l 64) s 64)

/-- n blocks -/
def blocks : Nat → S8 → List UInt8 → S8
  | 0, s, _ => s
  | n + 1, s, l => blocks n (compress s (l.take 64)) (l.drop 64)

def be64 (n : Nat) : List UInt8 := [UInt8.ofNat (n / 2 ^ 56), UInt8.ofNat (n / 2 ^ 48), UInt8.ofNat (n / 2 ^ 40), UInt8.ofNat (n / 2 ^ 32), UInt8.ofNat (n / 2 ^ 24), UInt8.ofNat (n / 2 ^ 16), UInt8.ofNat (n / 2 ^ 8), UInt8.ofNat n]
/-- how many zeros follow the byte 128 -/
def padZ (n : Nat) : Nat := (119 - n % 64) % 64
def padOf (n : Nat) : List UInt8 := 128 :: (List.replicate (padZ n) 0 ++ be64 (8 * n % 2 ^ 64))
def W32.bytes (w : W32) : List UInt8 := [UInt8.ofNat (w.toNat / 2 ^ 24), UInt8.ofNat (w.toNat / 2 ^ 16), UInt8.ofNat (w.toNat / 2 ^ 8), UInt8.ofNat w.toNat]
def S8.list (s : S8) : List W32 := [s.a, s.b, s.c, s.d, s.e, s.f, s.g, s.h]
def S8.bytes (s : S8) : List UInt8 := s.list.flatMap W32.bytes

def sha (x : List UInt8) : List UInt8 := (blocks ((x ++ padOf x.length).length / 64) shaH0 (x ++ padOf x.length)).bytes

theorem sched_length (l : List UInt8) : ∀ t, (sched l t).length = t
  | 0 => rfl
  | t + 1 => by simp [sched, sched_length l t]

theorem sched_get (l : List UInt8) {i t : Nat} (h : i < t) : (sched l t)[i]? = some (if i < 16 then wordAt l i else schedStep (sched l i) i) := by
  induction t with
  | zero => omega
  | succ t ih =>
    rw [sched]
    by_cases hi : i < t
    · rw [List.getElem?_append_left (by rw [sched_length]; exact hi), ih hi]
    · obtain rfl : i = t := by omega
      rw [List.getElem?_append_right (by rw [sched_length]; omega), sched_length, Nat.sub_self]
      rfl

theorem sha_length (x : List UInt8) : (sha x).length = 32 := rfl

theorem padZ_lt (n : Nat) : padZ n < 64 := Nat.mod_lt _ (by omega)
theorem padOf_length (n : Nat) : (padOf n).length = 9 + padZ n := by simp [padOf, be64]; omega
theorem pad_mod (n : Nat) : (n + (9 + padZ n)) % 64 = 0 := by unfold padZ; omega

theorem blocks_append : ∀ (n m : Nat) (s : S8) (x y : List UInt8), x.length = 64 * n → blocks (n + m) s (x ++ y) = blocks m (blocks n s x) y
  | 0, m, s, x, y, h => by
    have : x = [] := List.eq_nil_of_length_eq_zero (by omega)
    subst this; simp [blocks]
  | n + 1, m, s, x, y, h => by
    rw [show n + 1 + m = (n + m) + 1 by omega, blocks, blocks, List.take_append_of_le_length (by omega), List.drop_append_of_le_length (by omega)]
    exact blocks_append n m _ _ _ (by rw [List.length_drop]; omega)

theorem blocks_take : ∀ (n : Nat) (s : S8) (x y : List UInt8), 64 * n ≤ x.length → blocks n s (x ++ y) = blocks n s x
  | 0, _, _, _, _ => rfl
  | n + 1, s, x, y, h => by
    rw [blocks, blocks, List.take_append_of_le_length (by omega), List.drop_append_of_le_length (by omega)]
    exact blocks_take n _ _ _ (by rw [List.length_drop]; omega)

theorem sha_ab : sha [0, 97] ≠ sha [0, 98] := by decide +kernel

/-! ### words as integers of the model -/
theorem bv_add {a b : W32} {z : Int} (h : z = IntKind.u32.wrap (a.toNat + b.toNat)) : z = ((a + b).toNat : Int) := by
  rw [h, IntKind.wrap_u32, BitVec.toNat_add]; omega
theorem bv_bits (x : W32) : BitVec.ofInt 32 (x.toNat : Int) = x := by
  rw [BitVec.ofInt_natCast]; simp
theorem bv_wrap (x : W32) : IntKind.u32.wrap (x.toNat : Int) = (x.toNat : Int) := by
  rw [IntKind.wrap_u32]
  have := x.isLt
  omega
theorem bv_and {a b : W32} {z : Int} (h : z = bitsOp .and .u32 a.toNat b.toNat) : z = ((a &&& b).toNat : Int) := by
  rw [h]
  show IntKind.u32.wrap ((BitVec.ofInt 32 _ &&& BitVec.ofInt 32 _).toNat : Int) = _
  rw [bv_bits, bv_bits, bv_wrap]
theorem bv_or {a b : W32} {z : Int} (h : z = bitsOp .or .u32 a.toNat b.toNat) : z = ((a ||| b).toNat : Int) := by
  rw [h]
  show IntKind.u32.wrap ((BitVec.ofInt 32 _ ||| BitVec.ofInt 32 _).toNat : Int) = _
  rw [bv_bits, bv_bits, bv_wrap]
theorem bv_xor {a b : W32} {z : Int} (h : z = bitsOp .xor .u32 a.toNat b.toNat) : z = ((a ^^^ b).toNat : Int) := by
  rw [h]
  show IntKind.u32.wrap ((BitVec.ofInt 32 _ ^^^ BitVec.ofInt 32 _).toNat : Int) = _
  rw [bv_bits, bv_bits, bv_wrap]
theorem bv_not {a : W32} {z : Int} (h : z = bitsOp .xor .u32 (if IntKind.u32.signed then -1 else IntKind.u32.max) a.toNat) : z = ((~~~a).toNat : Int) := by
  rw [h]
  show IntKind.u32.wrap ((BitVec.ofInt 32 (4294967295 : Int) ^^^ BitVec.ofInt 32 _).toNat : Int) = _
  rw [bv_bits, bv_wrap]
  have : (BitVec.ofInt 32 (4294967295 : Int)) = BitVec.allOnes 32 := by decide
  rw [this, BitVec.allOnes_xor]
theorem bv_shr {a : W32} {n : Nat} (hn : n ≤ 32) {z : Int} (h : z = ((a.toNat : Nat) : Int).fdiv (2 ^ (min (Int.toNat (n : Int)) IntKind.u32.bits))) : z = ((a >>> n).toNat : Int) := by
  have e : min (Int.toNat (n : Int)) IntKind.u32.bits = n := by simp [IntKind.bits]; omega
  rw [h, e, BitVec.toNat_ushiftRight, Nat.shiftRight_eq_div_pow, Int.fdiv_eq_ediv_of_nonneg _ (Int.le_of_lt (Int.pow_pos (by omega)))]
  simp
theorem bv_shl {a : W32} {n : Nat} (hn : n ≤ 32) {z : Int} (h : z = IntKind.u32.wrap ((a.toNat : Nat) * 2 ^ (min (Int.toNat (n : Int)) IntKind.u32.bits))) : z = ((a <<< n).toNat : Int) := by
  have e : min (Int.toNat (n : Int)) IntKind.u32.bits = n := by simp [IntKind.bits]; omega
  rw [h, e, BitVec.toNat_shiftLeft, Nat.shiftLeft_eq, IntKind.wrap_u32]
  simp
theorem bv_byte {b : UInt8} {z : Int} (h : z = IntKind.u32.wrap (b.toNat : Int)) : z = ((BitVec.ofNat 32 b.toNat).toNat : Int) := by
  have := b.toNat_lt
  rw [h, IntKind.wrap_u32, BitVec.toNat_ofNat]; omega
theorem bv_const {n : Nat} (h : n < 2 ^ 32) : (n : Int) = ((BitVec.ofNat 32 n).toNat : Int) := by
  rw [BitVec.toNat_ofNat]; omega
theorem bv_u8 {a : W32} {k : Nat} {z : Int} (h : z = IntKind.u8.wrap (((a >>> k).toNat : Nat) : Int)) : z = ((UInt8.ofNat (a.toNat / 2 ^ k)).toNat : Int) := by
  rw [h, IntKind.wrap_u8, BitVec.toNat_ushiftRight, Nat.shiftRight_eq_div_pow, UInt8.toNat_ofNat']
  omega
theorem bv_u8' {a : W32} {z : Int} (h : z = IntKind.u8.wrap ((a.toNat : Nat) : Int)) : z = ((UInt8.ofNat a.toNat).toNat : Int) := by
  rw [h, IntKind.wrap_u8, UInt8.toNat_ofNat']
  omega
theorem rotr_eq {x : W32} {n : Nat} : x <<< (32 - n) ||| x >>> n = rotr x n := BitVec.or_comm _ _

end Go.Proofs.YtgnmbgbiajgpeaaDoor
