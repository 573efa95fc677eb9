/-
  The numbers of the wire: plain mathematics.
-/
import Derived.Test.YtgnmbgbiajgpeaaDoorV2
namespace Go.Proofs.YtgnmbgbiajgpeaaDoor

/-- The encoding of a number. -/
def num (n : Nat) : List UInt8 := if n < 128 then [UInt8.ofNat n] else UInt8.ofNat (n % 128 + 128) :: num (n / 128)
termination_by n
decreasing_by omega

/-- The length of the encoding of a number. -/
def usize (n : Nat) : Nat := if n < 128 then 1 else usize (n / 128) + 1
termination_by n
decreasing_by omega

theorem num_small {n : Nat} (h : n < 128) : num n = [UInt8.ofNat n] := by rw [num, if_pos h]
theorem num_big {n : Nat} (h : 128 ≤ n) : num n = UInt8.ofNat (n % 128 + 128) :: num (n / 128) := by rw [num, if_neg (by omega)]
theorem usize_small {n : Nat} (h : n < 128) : usize n = 1 := by rw [usize, if_pos h]
theorem usize_big {n : Nat} (h : 128 ≤ n) : usize n = usize (n / 128) + 1 := by rw [usize, if_neg (by omega)]

theorem length_num : ∀ n, (num n).length = usize n := by
  intro n
  induction n using Nat.strongRecOn with
  | _ n ih =>
    by_cases h : n < 128
    · rw [num_small h, usize_small h]; rfl
    · rw [num_big (by omega), usize_big (by omega), List.length_cons, ih (n / 128) (by omega)]

theorem usize_pos (n : Nat) : 1 ≤ usize n := by
  by_cases h : n < 128
  · rw [usize_small h]; omega
  · rw [usize_big (by omega)]; omega

theorem usize_le : ∀ k n : Nat, n < 128 ^ (k + 1) → usize n ≤ k + 1
  | 0, n, h => by rw [usize_small (by simpa using h)]; omega
  | k + 1, n, h => by
    by_cases hn : n < 128
    · rw [usize_small hn]; omega
    · rw [usize_big (by omega)]
      have := usize_le k (n / 128) (by rw [Nat.pow_succ] at h; omega)
      omega

theorem usize_le10 {n : Nat} (h : n ≤ 18446744073709551615) : usize n ≤ 10 := usize_le 9 n (by omega)

theorem num_ne_nil (n : Nat) : num n ≠ [] := by
  intro h
  have := length_num n
  have := usize_pos n
  rw [h] at *
  simp at *
  omega

/-- The zigzag number of an integer. -/
def zig (n : Int) : Int := if n < 0 then -2 * n - 1 else 2 * n
def zag (n : Nat) : Int := if n % 2 = 1 then -((n / 2 : Nat) : Int) - 1 else ((n / 2 : Nat) : Int)

theorem zig_nonneg (n : Int) : 0 ≤ zig n := by unfold zig; split <;> omega
theorem zig_le {n : Int} (h1 : -9223372036854775808 ≤ n) (h2 : n ≤ 9223372036854775807) : zig n ≤ 18446744073709551615 := by unfold zig; split <;> omega
theorem zag_zig (n : Int) : zag (zig n).toNat = n := by
  unfold zag zig
  split <;> split <;> omega
theorem zig_zag (n : Nat) : zig (zag n) = n := by
  unfold zag zig
  split <;> split <;> omega
theorem zag_lo {n : Nat} (h : n ≤ 18446744073709551615) : -9223372036854775808 ≤ zag n ∧ zag n ≤ 9223372036854775807 := by
  unfold zag; split <;> omega

end Go.Proofs.YtgnmbgbiajgpeaaDoor

namespace Go.Proofs.YtgnmbgbiajgpeaaDoor

/-- The number whose shortest encoding begins the list, and what is left; at most k bytes of ten are still to come. -/
def decG : Nat → List UInt8 → Option (Nat × List UInt8)
  | 0, _ => .none
  | _ + 1, [] => .none
  | k + 1, b :: l =>
    if 128 ≤ b.toNat then (decG k l).map fun p => (p.1 * 128 + (b.toNat - 128), p.2)
    else if (k < 9 ∧ b.toNat = 0) ∨ (k = 0 ∧ 1 < b.toNat) then .none
    else some (b.toNat, l)

def dec (l : List UInt8) : Option (Nat × List UInt8) := decG 10 l

theorem decG_num : ∀ (k : Nat), k ≤ 9 → ∀ (n : Nat) (r : List UInt8), n < 2 * 128 ^ k → (k < 9 → n ≠ 0) → decG (k + 1) (num n ++ r) = some (n, r)
  | 0, _, n, r, h, h0 => by
    have hn : n < 2 := by simpa using h
    have hz : n ≠ 0 := h0 (by omega)
    rw [num_small (by omega)]
    have hb : (UInt8.ofNat n).toNat = n := by simp only [UInt8.toNat_ofNat']; omega
    simp only [List.singleton_append, decG, hb]
    rw [if_neg (by omega), if_neg (by omega)]
  | k + 1, hk, n, r, h, h0 => by
    by_cases hn : n < 128
    · rw [num_small hn]
      have hb : (UInt8.ofNat n).toNat = n := by simp only [UInt8.toNat_ofNat']; omega
      simp only [List.singleton_append, decG, hb]
      rw [if_neg (by omega), if_neg (by omega)]
    · rw [num_big (by omega)]
      have hb : (UInt8.ofNat (n % 128 + 128)).toNat = n % 128 + 128 := by simp only [UInt8.toNat_ofNat']; omega
      have ih := decG_num k (by omega) (n / 128) r (by rw [Nat.pow_succ] at h; omega) (by omega)
      rw [List.cons_append, decG, hb, if_pos (by omega), ih]
      simp only [Option.map_some, Option.some.injEq, Prod.mk.injEq, and_true]
      omega

theorem decG_inv : ∀ (k : Nat), k ≤ 9 → ∀ (l : List UInt8) (n : Nat) (r : List UInt8), decG (k + 1) l = some (n, r) → l = num n ++ r ∧ n < 2 * 128 ^ k ∧ (k < 9 → n ≠ 0)
  | 0, _, [], n, r, h => by simp [decG] at h
  | 0, _, b :: l, n, r, h => by
    rw [decG] at h
    split at h
    · simp [decG] at h
    · split at h
      · cases h
      · simp only [Option.some.injEq, Prod.mk.injEq] at h
        obtain ⟨rfl, rfl⟩ := h
        rw [num_small (by omega)]
        refine ⟨by simp, by omega, by omega⟩
  | k + 1, _, [], n, r, h => by simp [decG] at h
  | k + 1, hk, b :: l, n, r, h => by
    rw [decG] at h
    split at h
    · rename_i hb
      cases hd : decG (k + 1) l with
      | none => rw [hd] at h; cases h
      | some p =>
        obtain ⟨m, r'⟩ := p
        rw [hd] at h
        simp only [Option.map_some, Option.some.injEq, Prod.mk.injEq] at h
        obtain ⟨rfl, rfl⟩ := h
        obtain ⟨h1, h2, h3⟩ := decG_inv k (by omega) l m r' hd
        have hm := h3 (by omega)
        have hlt := UInt8.toNat_lt b
        rw [num_big (by omega)]
        have e1 : (m * 128 + (b.toNat - 128)) % 128 + 128 = b.toNat := by omega
        have e2 : (m * 128 + (b.toNat - 128)) / 128 = m := by omega
        rw [e1, e2, h1]
        refine ⟨by simp, by rw [Nat.pow_succ]; omega, by omega⟩
    · split at h
      · cases h
      · simp only [Option.some.injEq, Prod.mk.injEq] at h
        obtain ⟨rfl, rfl⟩ := h
        rw [num_small (by omega)]
        refine ⟨by simp, ?_, by omega⟩
        have : 1 ≤ 128 ^ k := Nat.one_le_pow _ _ (by omega)
        rw [Nat.pow_succ]; omega

theorem dec_iff {l : List UInt8} {n : Nat} {r : List UInt8} : dec l = some (n, r) ↔ l = num n ++ r ∧ n ≤ 18446744073709551615 := by
  constructor
  · intro h
    obtain ⟨h1, h2, _⟩ := decG_inv 9 (by omega) l n r h
    exact ⟨h1, by omega⟩
  · rintro ⟨rfl, h⟩
    exact decG_num 9 (by omega) n r (by omega) (by omega)

theorem num_prefix {n m : Nat} {r s : List UInt8} (h1 : n ≤ 18446744073709551615) (h2 : m ≤ 18446744073709551615) (h : num n ++ r = num m ++ s) : n = m ∧ r = s := by
  have := dec_iff.2 (⟨rfl, h2⟩ : num m ++ s = num m ++ s ∧ _)
  have a : dec (num n ++ r) = some (n, r) := dec_iff.2 ⟨rfl, h1⟩
  rw [h, this] at a
  simp only [Option.some.injEq, Prod.mk.injEq] at a
  exact ⟨a.1.symm, a.2.symm⟩

theorem num_inj {n m : Nat} (h1 : n ≤ 18446744073709551615) (h2 : m ≤ 18446744073709551615) (h : num n = num m) : n = m :=
  (num_prefix (r := []) (s := []) h1 h2 (by rw [h])).1

end Go.Proofs.YtgnmbgbiajgpeaaDoor
