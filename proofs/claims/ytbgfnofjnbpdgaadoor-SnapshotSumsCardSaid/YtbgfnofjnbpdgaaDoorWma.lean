/-
  The numbers of the wire: plain mathematics.
-/
import Derived.Test.YtbgfnofjnbpdgaaDoorVck
namespace Go.Proofs.YtbgfnofjnbpdgaaDoor

/-- The encoding of a number. -/
def num (n : Nat) : List UInt8 := if n < 128 then [UInt8.ofNat n] else UInt8.ofNat (n % 128 + 128) :: num (n / 128)
termination_by n
decreasing_by omega

/-- The length of the encoding of a number. -/
def usize (n : Nat) : Nat := if n < 128 then 1 else usize (n / 128) + 1
termination_by n
decreasing_by omega

theorem num_small {n : Nat} (h : n < 128) : num n = [UInt8.ofNat n] := by rw [num, if_pos h]
theorem num_big {n : Nat} (h : 128 ≤ n) : num n = UInt8.ofNat (n % 128 + 128) :: num (n / 128) := by rw [num, if_neg (by omega)]
theorem usize_small {n : Nat} (h : n < 128) : usize n = 1 := by rw [usize, if_pos h]
theorem usize_big {n : Nat} (h : 128 ≤ n) : usize n = usize (n / 128) + 1 := by rw [usize, if_neg (by omega)]

theorem length_num : ∀ n, (num n).length = usize n := by
  intro n
  induction n using Nat.strongRecOn with
  | _ n ih =>
    by_cases h : n < 128
    · rw [num_small h, usize_small h]; rfl
    · rw [num_big (by omega), usize_big (by omega), List.length_cons, ih (n / 128) (by omega)]

theorem usize_pos (n : Nat) : 1 ≤ usize n := by
  by_cases h : n < 128
  · rw [usize_small h]; omega
  · rw [usize_big (by omega)]; omega

theorem usize_le : ∀ k n : Nat, n < 128 ^ (k + 1) → usize n ≤ k + 1
  | 0, n, h => by rw [usize_small (by simpa using h)]; omega
  | k + 1, n, h => by
    by_cases hn : n < 128
    · rw [usize_small hn]; omega
    · rw [usize_big (by omega)]
      have := usize_le k (n / 128) (by rw [Nat.pow_succ] at h; omega)
      omega

theorem usize_le10 {n : Nat} (h : n ≤ 18446744073709551615) : usize n ≤ 10 := usize_le 9 n (by omega)

theorem num_ne_nil (n : Nat) : num n ≠ [] := by
  intro h
  have := length_num n
  have := usize_pos n
  rw [h] at *
  simp at *
  omega

/-- The zigzag number of an integer. -/
def zig (n : Int) : Int := if n < 0 then -2 * n - 1 else 2 * n
def zag (n : Nat) : Int := if n % 2 = 1 then -((n / 2 : Nat) : Int) - 1 else ((n / 2 : Nat) : Int)

theorem zig_nonneg (n : Int) : 0 ≤ zig n := by unfold zig; split <;> omega
theorem zig_le {n : Int} (h1 : -9223372036854775808 ≤ n) (h2 : n ≤ 9223372036854775807) : zig n ≤ 18446744073709551615 := by unfold zig; split <;> omega
theorem zag_zig (n : Int) : zag (zig n).toNat = n := by
  unfold zag zig
  split <;> split <;> omega
theorem zig_zag (n : Nat) : zig (zag n) = n := by
  unfold zag zig
  split <;> split <;> omega
theorem zag_lo {n : Nat} (h : n ≤ 18446744073709551615) : -9223372036854775808 ≤ zag n ∧ zag n ≤ 9223372036854775807 := by
  unfold zag; split <;> omega

end Go.Proofs.YtbgfnofjnbpdgaaDoor
