/-
  Plain law of MerkleGrows: the proof for two sizes is accepted with their roots.
-/
import Derived.Test.YtgbdfpfiolbhlaaDoorMko
namespace Go.Proofs.YtgbdfpfiolbhlaaDoor
open Go Go.RowKit
set_option linter.unusedVariables false

theorem rootOf_mid {l : List Str} {m : Nat} (h2 : 2 ≤ l.length) (hk : splitN l.length < m) (hm : m ≤ l.length) :
    rootOf (l.take m) = nodeOf (rootOf (l.take (splitN l.length))) (rootOf ((l.drop (splitN l.length)).take (m - splitN l.length))) := by
  have hm2 : (l.take m).length = m := by rw [List.length_take]; omega
  have hmid := splitN_mid h2 hk hm
  rw [rootOf_two (by have := splitN_pos l.length; omega : 2 ≤ (l.take m).length), hm2, hmid, List.take_take, Nat.min_eq_left (by omega), List.drop_take]

theorem both_proof : ∀ (n : Nat) (old : Str) (l : List Str) (m : Nat) (b : Bool), l.length = n → 1 ≤ m → m ≤ l.length → (b = true → old = rootOf (l.take m)) →
    bothR old (proofR l m b) m l.length b = (rootOf (l.take m), rootOf l, true) := by
  intro n
  induction n using Nat.strongRecOn with
  | _ n ih =>
  intro old l m b hn hm hml hb
  by_cases e : m = l.length
  · have ht : l.take m = l := List.take_of_length_le (by omega)
    rw [ht] at hb ⊢
    rw [proofR_eq e]
    cases b
    · simp [bothR, e]
    · simp [bothR, e, hb rfl]
  have h2 : 2 ≤ l.length := by omega
  have hk := splitN_lt h2
  have hk0 := splitN_pos l.length
  by_cases c : m ≤ splitN l.length
  · have htl : (l.take (splitN l.length)).length = splitN l.length := by rw [List.length_take]; omega
    have htt : (l.take (splitN l.length)).take m = l.take m := by rw [List.take_take, Nat.min_eq_left c]
    have := ih (splitN l.length) (by omega) old (l.take (splitN l.length)) m b htl hm (by omega) (by rw [htt]; exact hb)
    rw [htl, htt] at this
    rw [proofR_lo e h2 c, bothR_lo e c, this, rootOf_two h2]
  · have hdl : (l.drop (splitN l.length)).length = l.length - splitN l.length := by rw [List.length_drop]
    have := ih (l.length - splitN l.length) (by omega) old (l.drop (splitN l.length)) (m - splitN l.length) false hdl (by omega) (by omega) (fun h => by cases h)
    rw [hdl] at this
    rw [proofR_hi e h2 c, bothR_hi e c, this, rootOf_mid h2 (by omega) hml, rootOf_two h2]

theorem proofR_sums : ∀ (n : Nat) (l : List Str) (m : Nat) (b : Bool), l.length = n → 1 ≤ m → m ≤ l.length → sumsB l = true → sumsB (proofR l m b) = true := by
  intro n
  induction n using Nat.strongRecOn with
  | _ n ih =>
  intro l m b hn hm hml hl
  by_cases e : m = l.length
  · rw [proofR_eq e]
    cases b
    · rw [sumsB_iff]
      intro s hs
      rw [List.mem_singleton.1 hs]
      exact root_sum hl
    · rfl
  have h2 : 2 ≤ l.length := by omega
  have hk := splitN_lt h2
  have hk0 := splitN_pos l.length
  by_cases c : m ≤ splitN l.length
  · rw [proofR_lo e h2 c]
    have := ih (splitN l.length) (by omega) (l.take (splitN l.length)) m b (by rw [List.length_take]; omega) hm (by rw [List.length_take]; omega) (sumsB_takeK hl _)
    rw [sumsB_iff] at this ⊢
    intro s hs
    rcases List.mem_cons.1 hs with rfl | hs
    · exact root_sum (sumsB_dropK hl _)
    · exact this s hs
  · rw [proofR_hi e h2 c]
    have := ih (l.length - splitN l.length) (by omega) (l.drop (splitN l.length)) (m - splitN l.length) false (by rw [List.length_drop]) (by omega) (by rw [List.length_drop]; omega) (sumsB_dropK hl _)
    rw [sumsB_iff] at this ⊢
    intro s hs
    rcases List.mem_cons.1 hs with rfl | hs
    · exact root_sum (sumsB_takeK hl _)
    · exact this s hs

/-- The law. -/
theorem grows {l : List Str} {m n : Nat} (hmn : m ≤ n) (hn : n ≤ l.length) (hl : sumsB l = true) : consistentB m n (rootOf (l.take m)) (rootOf (l.take n)) (consOf l m n) = true := by
  have h1 := root_sum (sumsB_takeK hl m)
  have h2 := root_sum (sumsB_takeK hl n)
  have e1 : decide ((0 : Int) ≤ m) = true := decide_eq_true (by omega)
  have e2 : decide ((m : Int) ≤ n) = true := decide_eq_true (by omega)
  have htl : (l.take n).length = n := by rw [List.length_take]; omega
  by_cases h0 : m = 0
  · subst h0
    have e3 : rootOf (l.take 0) = sha [] := rootOf_zero rfl
    have e4 : consOf l 0 n = [] := if_pos rfl
    rw [consistentB, e1, e2, h1, h2, e4]
    rcases Nat.eq_zero_or_pos n with hz | hz
    · subst hz
      have e5 : rootOf [] = sha [] := rootOf_zero rfl
      simp [e5, sumsB]
    · have e5 : decide ((0 : Int) < n) = true := decide_eq_true (by omega)
      simp only [e3, e5]
      simp [sumsB]
  · have e3 : consOf l m n = (proofR (l.take n) m true).reverse := if_neg h0
    have hb := both_proof n (rootOf (l.take m)) (l.take n) m true htl (by omega) (by omega) (fun _ => by rw [List.take_take, Nat.min_eq_left hmn])
    rw [htl, List.take_take, Nat.min_eq_left hmn] at hb
    have hs := proofR_sums n (l.take n) m true htl (by omega) (by omega) (sumsB_takeK hl _)
    have e4 : ¬ (m : Int) = 0 := by omega
    rw [consistentB, e1, e2, h1, h2, e3, sumsB_reverse, hs, if_neg e4]
    simp only [bothOf, List.reverse_reverse, Int.toNat_natCast, hb]
    simp

end Go.Proofs.YtgbdfpfiolbhlaaDoor
