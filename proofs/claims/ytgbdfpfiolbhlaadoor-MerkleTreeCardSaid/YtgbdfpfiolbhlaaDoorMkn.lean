/-
  Plain law: an accepted consistency proof fits the list, or two texts have one sum.
-/
import Derived.Test.YtgbdfpfiolbhlaaDoorMkj
namespace Go.Proofs.YtgbdfpfiolbhlaaDoor
open Go Go.RowKit
set_option linter.unusedVariables false

section
variable {old last : Str} {rest : List Str} {m n : Nat} {b : Bool}
theorem bothR_lo (h : m ≠ n) (hk : m ≤ splitN n) : bothR old (last :: rest) m n b = ((bothR old rest m (splitN n) b).1, nodeOf (bothR old rest m (splitN n) b).2.1 last, (bothR old rest m (splitN n) b).2.2) := by
  simp only [bothR, if_neg h, if_pos hk]
theorem bothR_hi (h : m ≠ n) (hk : ¬ m ≤ splitN n) : bothR old (last :: rest) m n b = (nodeOf last (bothR old rest (m - splitN n) (n - splitN n) false).1, nodeOf last (bothR old rest (m - splitN n) (n - splitN n) false).2.1, (bothR old rest (m - splitN n) (n - splitN n) false).2.2) := by
  simp only [bothR, if_neg h, if_neg hk]
/-- What is accepted where m and n are equal. -/
theorem bothR_same {rp : List Str} (h : m = n) (hok : (bothR old rp m n b).2.2 = true) : (b = true ∧ rp = [] ∧ bothR old rp m n b = (old, old, true)) ∨ (b = false ∧ ∃ s, rp = [s] ∧ bothR old rp m n b = (s, s, true)) := by
  cases rp with
  | nil =>
    cases b
    · simp [bothR, h] at hok
    · exact .inl ⟨rfl, rfl, by simp [bothR, h]⟩
  | cons s r =>
    cases b
    · cases r with
      | nil => exact .inr ⟨rfl, s, rfl, by simp [bothR, h]⟩
      | cons s2 r2 => simp [bothR, h] at hok
    · simp [bothR, h] at hok
theorem bothR_nil (h : m ≠ n) : (bothR old [] m n b).2.2 = false := by simp [bothR, h]
end

def preR (old : Str) : List Str → Nat → Nat → Bool → Str
  | [], _, _, _ => old
  | last :: rest, m, n, b => if m = n then (if b then old else last) else
    if m ≤ splitN n then nodeOf (preR old rest m (splitN n) b) last else nodeOf last (preR old rest (m - splitN n) (n - splitN n) false)
theorem preR_len {old : Str} (ho : old.length ≤ 1000000) : ∀ (rp : List Str) (m n : Nat) (b : Bool), (∀ s ∈ rp, s.length ≤ 1000000) → (preR old rp m n b).length ≤ 1000000
  | [], m, n, b, _ => ho
  | last :: rest, m, n, b, h => by
    unfold preR
    split
    · split
      · exact ho
      · exact h _ (List.mem_cons_self ..)
    · split <;> rw [nodeOf_length] <;> omega
theorem preR_both {old : Str} : ∀ (rp : List Str) (m n : Nat) (b : Bool), (bothR old rp m n b).2.2 = true → preR old rp m n b = (bothR old rp m n b).2.1
  | [], m, n, b, h => by
    by_cases e : m = n
    · rcases bothR_same e h with ⟨_, _, h2⟩ | ⟨_, s, h3, _⟩
      · rw [h2]; rfl
      · cases h3
    · rw [bothR_nil e] at h; cases h
  | last :: rest, m, n, b, h => by
    by_cases e : m = n
    · rcases bothR_same e h with ⟨_, h3, _⟩ | ⟨hb, s, h3, h2⟩
      · cases h3
      · cases h3
        rw [h2, preR, if_pos e, hb]; rfl
    · by_cases c : m ≤ splitN n
      · rw [bothR_lo e c] at h ⊢
        rw [preR, if_neg e, if_pos c, preR_both rest m (splitN n) b h]
      · rw [bothR_hi e c] at h ⊢
        rw [preR, if_neg e, if_neg c, preR_both rest (m - splitN n) (n - splitN n) false h]

theorem both_length {old : Str} : ∀ (rp : List Str) (l : List Str) (m : Nat) (b : Bool), 1 ≤ m → m ≤ l.length → (bothR old rp m l.length b).2.2 = true → rp.length = (proofR l m b).length
  | rp, l, m, b, hm, hml, h => by
    by_cases e : m = l.length
    · rw [proofR_eq e]
      rcases bothR_same e h with ⟨hb, h3, _⟩ | ⟨hb, s, h3, _⟩
      · subst hb h3; rfl
      · subst hb h3; rfl
    have h2 : 2 ≤ l.length := by omega
    have hk := splitN_lt h2
    cases rp with
    | nil => rw [bothR_nil e] at h; cases h
    | cons last rest =>
      by_cases c : m ≤ splitN l.length
      · rw [bothR_lo e c] at h
        have ht : (l.take (splitN l.length)).length = splitN l.length := by rw [List.length_take]; omega
        rw [proofR_lo e h2 c, List.length_cons, List.length_cons, both_length rest (l.take (splitN l.length)) m b hm (by omega) (by rw [ht]; exact h)]
      · rw [bothR_hi e c] at h
        have ht : (l.drop (splitN l.length)).length = l.length - splitN l.length := by rw [List.length_drop]
        rw [proofR_hi e h2 c, List.length_cons, List.length_cons, both_length rest (l.drop (splitN l.length)) (m - splitN l.length) false (by omega) (by omega) (by rw [ht]; exact h)]
  termination_by rp => rp.length

def foundR (old : Str) : List Str → List Str → Nat → Bool → Bool
  | [], _, _, _ => false
  | last :: rest, l, m, b => if m = l.length then false else
    if m ≤ splitN l.length then
      collB (1 :: (preR old rest m (splitN l.length) b ++ last)) (1 :: (rootOf (l.take (splitN l.length)) ++ rootOf (l.drop (splitN l.length)))) || foundR old rest (l.take (splitN l.length)) m b
    else
      collB (1 :: (last ++ preR old rest (m - splitN l.length) (l.length - splitN l.length) false)) (1 :: (rootOf (l.take (splitN l.length)) ++ rootOf (l.drop (splitN l.length)))) || foundR old rest (l.drop (splitN l.length)) (m - splitN l.length) false

theorem splitN_mid {n m : Nat} (h2 : 2 ≤ n) (hm : splitN n < m) (hmn : m ≤ n) : splitN m = splitN n :=
  (splitN_unique (k := splitN n) (e := Nat.log2 (n - 1)) rfl hm (by have := splitN_ge h2; omega)).symm

theorem extends_ {old : Str} : ∀ (rp : List Str) (l : List Str) (m : Nat) (b : Bool), 1 ≤ m → m ≤ l.length → sumsB l = true → sumsB rp = true →
    (bothR old rp m l.length b).2.2 = true → (bothR old rp m l.length b).2.1 = rootOf l → (bothR old rp m l.length b).1 ≠ rootOf (l.take m) → foundR old rp l m b = true
  | rp, l, m, b, hm, hml, hl, hr, hok, hsec, hne => by
    by_cases e : m = l.length
    · exfalso
      have ht : l.take m = l := List.take_of_length_le (by omega)
      rw [ht] at hne
      rcases bothR_same e hok with ⟨_, _, h2⟩ | ⟨_, s, _, h2⟩
      · rw [h2] at hsec hne; exact hne hsec
      · rw [h2] at hsec hne; exact hne hsec
    have h2 : 2 ≤ l.length := by omega
    have hk := splitN_lt h2
    cases rp with
    | nil => rw [bothR_nil e] at hok; cases hok
    | cons last rest =>
      have hlast : last.length = 32 := sumsB_iff.1 hr _ (List.mem_cons_self ..)
      have hrest : sumsB rest = true := sumsB_iff.2 fun s hs => sumsB_iff.1 hr s (List.mem_cons_of_mem _ hs)
      rw [rootOf_two h2] at hsec
      by_cases c : m ≤ splitN l.length
      · rw [bothR_lo e c] at hok hsec hne
        have ht : (l.take (splitN l.length)).length = splitN l.length := by rw [List.length_take]; omega
        rw [foundR, if_neg e, if_pos c, preR_both rest m _ b hok]
        by_cases d : 1 :: ((bothR old rest m (splitN l.length) b).2.1 ++ last) = 1 :: (rootOf (l.take (splitN l.length)) ++ rootOf (l.drop (splitN l.length)))
        · have e2 := (app_left (List.cons.inj d).2 (by rw [hlast, root_sum (sumsB_dropK hl _)])).1
          have := extends_ rest (l.take (splitN l.length)) m b hm (by omega) (sumsB_takeK hl _) hrest (by rw [ht]; exact hok) (by rw [ht]; exact e2) (by
            rw [ht, List.take_take, Nat.min_eq_left c]; exact hne)
          rw [this, Bool.or_true]
        · rw [collB_true d hsec, Bool.true_or]
      · rw [bothR_hi e c] at hok hsec hne
        have ht : (l.drop (splitN l.length)).length = l.length - splitN l.length := by rw [List.length_drop]
        rw [foundR, if_neg e, if_neg c, preR_both rest _ _ false hok]
        by_cases d : 1 :: (last ++ (bothR old rest (m - splitN l.length) (l.length - splitN l.length) false).2.1) = 1 :: (rootOf (l.take (splitN l.length)) ++ rootOf (l.drop (splitN l.length)))
        · have e2 := List.append_inj (List.cons.inj d).2 (by rw [hlast, root_sum (sumsB_takeK hl _)])
          have hm2 : (l.take m).length = m := by rw [List.length_take]; omega
          have hmid := splitN_mid h2 (by omega : splitN l.length < m) hml
          have := extends_ rest (l.drop (splitN l.length)) (m - splitN l.length) false (by omega) (by omega) (sumsB_dropK hl _) hrest (by rw [ht]; exact hok) (by rw [ht]; exact e2.2) (by
            rw [ht]
            intro hq
            apply hne
            rw [rootOf_two (by have := splitN_pos l.length; omega : 2 ≤ (l.take m).length), hm2, hmid, List.take_take, Nat.min_eq_left (by omega), List.drop_take, ← hq, ← e2.1])
          rw [this, Bool.or_true]
        · rw [collB_true d hsec, Bool.true_or]
  termination_by rp => rp.length

end Go.Proofs.YtgbdfpfiolbhlaaDoor
