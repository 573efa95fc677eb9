/-
  A number as the reference reads it: plain mathematics.
-/
import Derived.Test.YtoddabjacjkjbaaW1
namespace Go.Proofs.Ytoddabjacjkjbaa

/-- The number that bytes hold, whatever their marks. -/
def horn : List UInt8 → Nat
  | [] => 0
  | b :: l => b.toNat % 128 + 128 * horn l

theorem horn_num : ∀ n, horn (num n) = n := by
  intro n
  induction n using Nat.strongRecOn with
  | _ n ih =>
    by_cases h : n < 128
    · rw [num_small h]
      have hb : (UInt8.ofNat n).toNat = n := by simp only [UInt8.toNat_ofNat']; omega
      simp only [horn, hb]; omega
    · rw [num_big (by omega)]
      have hb : (UInt8.ofNat (n % 128 + 128)).toNat = n % 128 + 128 := by simp only [UInt8.toNat_ofNat']; omega
      simp only [horn, hb, ih (n / 128) (by omega)]; omega

theorem num_marks : ∀ n i b, (num n)[i]? = some b → (128 ≤ b.toNat ↔ i + 1 < usize n) := by
  intro n
  induction n using Nat.strongRecOn with
  | _ n ih =>
    intro i b h
    by_cases hn : n < 128
    · rw [num_small hn] at h
      rw [usize_small hn]
      have hb : (UInt8.ofNat n).toNat = n := by simp only [UInt8.toNat_ofNat']; omega
      cases i with
      | zero => simp only [List.getElem?_cons_zero, Option.some.injEq] at h; subst h; omega
      | succ i => simp at h
    · rw [num_big (by omega)] at h
      rw [usize_big (by omega)]
      have hb : (UInt8.ofNat (n % 128 + 128)).toNat = n % 128 + 128 := by simp only [UInt8.toNat_ofNat']; omega
      have hp := usize_pos (n / 128)
      cases i with
      | zero => simp only [List.getElem?_cons_zero, Option.some.injEq] at h; subst h; omega
      | succ i =>
        simp only [List.getElem?_cons_succ] at h
        have := ih (n / 128) (by omega) i b h
        omega

/-- All of the first n bytes are marked as followed by others. -/
def marked (l : List UInt8) (n : Nat) : Prop := ∀ i b, i < n → l[i]? = some b → 128 ≤ b.toNat

theorem marked_size {l r : List UInt8} {n m : Nat} (h : marked l n) (hl : l = num m ++ r) : n < usize m := by
  rcases Nat.lt_or_ge n (usize m) with h1 | h1
  · exact h1
  · have hp := usize_pos m
    have hlen := length_num m
    have hg : (num m)[usize m - 1]? = some ((num m)[usize m - 1]'(by omega)) := List.getElem?_eq_getElem (by omega)
    generalize (num m)[usize m - 1]'(by omega) = b at hg
    have h2 := (num_marks m _ b hg)
    have h3 := h (usize m - 1) b (by omega) (by rw [hl, List.getElem?_append_left (by omega)]; exact hg)
    omega

theorem refnum_none {l : List UInt8} {n : Nat} (h : marked l n) (hn : n = 10 ∨ n = l.length) : dec l = .none := by
  cases hd : dec l with
  | none => rfl
  | some p =>
    obtain ⟨m, r⟩ := p
    obtain ⟨h1, h2⟩ := dec_iff.1 hd
    have h3 := marked_size h h1
    have h4 := usize_le10 h2
    have h5 : l.length = usize m + r.length := by rw [h1, List.length_append, length_num]
    omega

theorem refnum_size {l r : List UInt8} {n m : Nat} {b : UInt8} (h : marked l n) (hb : l[n]? = some b) (hb2 : b.toNat < 128) (hl : l = num m ++ r) : usize m = n + 1 := by
  have h1 := marked_size h hl
  rcases Nat.lt_or_ge (n + 1) (usize m) with h2 | h2
  · have hlen := length_num m
    rw [hl, List.getElem?_append_left (by omega)] at hb
    have := num_marks m n b hb
    omega
  · omega

theorem refnum_yes {l : List UInt8} {n v : Nat} (hv : v ≤ 18446744073709551615) (h : num v = l.take n) : dec l = some (v, l.drop n) :=
  dec_iff.2 ⟨by rw [h, List.take_append_drop], hv⟩

theorem refnum_no {l : List UInt8} {n : Nat} {b : UInt8} (h : marked l n) (hb : l[n]? = some b) (hb2 : b.toNat < 128) (hne : num (horn (l.take (n + 1)) % 18446744073709551616) ≠ l.take (n + 1)) : dec l = .none := by
  cases hd : dec l with
  | none => rfl
  | some p =>
    obtain ⟨m, r⟩ := p
    obtain ⟨h1, h2⟩ := dec_iff.1 hd
    have h3 := refnum_size h hb hb2 h1
    have h4 : l.take (n + 1) = num m := by
      rw [h1, ← h3, ← length_num, List.take_left]
    rw [h4, horn_num, Nat.mod_eq_of_lt (by omega)] at hne
    exact absurd rfl hne

end Go.Proofs.Ytoddabjacjkjbaa
