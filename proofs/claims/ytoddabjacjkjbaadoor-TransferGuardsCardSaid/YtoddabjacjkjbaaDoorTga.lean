/-
  Transfer: two different parts that show the same root meet in a collision, plain.
-/
import Derived.Test.YtoddabjacjkjbaaDoorTra
namespace Go.Proofs.YtoddabjacjkjbaaDoor
open Go Go.RowKit
set_option linter.unusedVariables false
set_option linter.unusedSimpArgs false

/-- What is hashed from the leaf to the root. -/
def preR (x : Str) : List Str → Nat → Nat → List Str
  | [], _, _ => [0 :: x]
  | last :: rest, i, n => if n ≤ 1 then [0 :: x] else
    if i < splitN n then preR x rest i (splitN n) ++ [1 :: (sha ((preR x rest i (splitN n)).getLastD []) ++ last)]
    else preR x rest (i - splitN n) (n - splitN n) ++ [1 :: (last ++ sha ((preR x rest (i - splitN n) (n - splitN n)).getLastD []))]
def Clash (a b : List Str) : Prop := ∃ (k : Nat) (u v : Str), a[k]? = some u ∧ b[k]? = some v ∧ u ≠ v ∧ sha u = sha v
theorem Clash.app {a b c d : List Str} (h : Clash a b) : Clash (a ++ c) (b ++ d) := by
  obtain ⟨k, u, v, h1, h2, h3, h4⟩ := h
  exact ⟨k, u, v, by rw [List.getElem?_append_left (List.getElem?_eq_some_iff.1 h1).1]; exact h1, by rw [List.getElem?_append_left (List.getElem?_eq_some_iff.1 h2).1]; exact h2, h3, h4⟩
theorem Clash.top {a b : List Str} {u v : Str} (hl : a.length = b.length) (h : u ≠ v) (hs : sha u = sha v) : Clash (a ++ [u]) (b ++ [v]) :=
  ⟨a.length, u, v, by simp, by rw [hl]; simp, h, hs⟩
theorem u_nil (leaf : Str) (i n : Nat) : upR leaf [] i n = if n = 1 then (leaf, true) else ([], false) := by rw [upR]
theorem u_cons (leaf last : Str) (rest : List Str) (i n : Nat) : upR leaf (last :: rest) i n = if n = 1 then (leaf, false) else
    if i < splitN n then (nodeOf (upR leaf rest i (splitN n)).1 last, (upR leaf rest i (splitN n)).2)
    else (nodeOf last (upR leaf rest (i - splitN n) (n - splitN n)).1, (upR leaf rest (i - splitN n) (n - splitN n)).2) := by rw [upR]
theorem p_cons (x last : Str) (rest : List Str) (i : Nat) {n : Nat} (h : ¬ n ≤ 1) : preR x (last :: rest) i n = if i < splitN n then preR x rest i (splitN n) ++ [1 :: (sha ((preR x rest i (splitN n)).getLastD []) ++ last)]
    else preR x rest (i - splitN n) (n - splitN n) ++ [1 :: (last ++ sha ((preR x rest (i - splitN n) (n - splitN n)).getLastD []))] := by rw [preR, if_neg h]
theorem last_snoc (a : List Str) (u : Str) : (a ++ [u]).getLastD [] = u := by simp [List.getLastD_eq_getLast?]
theorem preR_last (x : Str) : ∀ (p : List Str) (i n : Nat), 1 ≤ n → (upR (leafOf x) p i n).2 = true → sha ((preR x p i n).getLastD []) = (upR (leafOf x) p i n).1
  | [], i, n, hn, h => by
    rw [u_nil] at h ⊢
    split at h
    · rename_i e
      rw [if_pos e]; rfl
    · cases h
  | last :: rest, i, n, hn, h => by
    rw [u_cons] at h ⊢
    by_cases h1 : n = 1
    · rw [if_pos h1] at h; cases h
    rw [if_neg h1] at h ⊢
    rw [preR, if_neg (by omega)]
    have s1 := splitN_pos n
    have s2 := splitN_lt (n := n) (by omega)
    by_cases h2 : i < splitN n
    · rw [if_pos h2] at h ⊢
      rw [if_pos h2, last_snoc, preR_last x rest i (splitN n) s1 h]; rfl
    · rw [if_neg h2] at h ⊢
      rw [if_neg h2, last_snoc, preR_last x rest (i - splitN n) (n - splitN n) (by omega) h]; rfl
theorem preR_same (x y : Str) : ∀ (p q : List Str) (i n : Nat), 1 ≤ n → (upR (leafOf x) p i n).2 = true → (upR (leafOf y) q i n).2 = true → (preR x p i n).length = (preR y q i n).length
  | [], [], i, n, hn, h, g => rfl
  | [], b :: q, i, n, hn, h, g => by
    rw [u_nil] at h
    rw [u_cons] at g
    split at h
    · rename_i e
      rw [if_pos e] at g; cases g
    · cases h
  | a :: p, [], i, n, hn, h, g => by
    rw [u_cons] at h
    rw [u_nil] at g
    split at g
    · rename_i e
      rw [if_pos e] at h; cases h
    · cases g
  | a :: p, b :: q, i, n, hn, h, g => by
    rw [u_cons] at h g
    by_cases h1 : n = 1
    · rw [if_pos h1] at h; cases h
    rw [if_neg h1] at h g
    rw [p_cons x a p i (n := n) (by omega), p_cons y b q i (n := n) (by omega)]
    have s1 := splitN_pos n
    have s2 := splitN_lt (n := n) (by omega)
    by_cases h2 : i < splitN n
    · rw [if_pos h2] at h g
      rw [if_pos h2, if_pos h2, List.length_append, List.length_append, preR_same x y p q i (splitN n) s1 h g]; rfl
    · rw [if_neg h2] at h g
      rw [if_neg h2, if_neg h2, List.length_append, List.length_append, preR_same x y p q (i - splitN n) (n - splitN n) (by omega) h g]; rfl
theorem preR_clash (x y : Str) (hxy : x ≠ y) : ∀ (p q : List Str) (i n : Nat), 1 ≤ n → (∀ s ∈ p, s.length = 32) → (∀ s ∈ q, s.length = 32) → (upR (leafOf x) p i n).2 = true → (upR (leafOf y) q i n).2 = true → (upR (leafOf x) p i n).1 = (upR (leafOf y) q i n).1 → Clash (preR x p i n) (preR y q i n)
  | [], [], i, n, hn, hp, hq, h, g, e => by
    rw [u_nil, u_nil] at e
    rw [u_nil] at h
    split at h
    · rename_i e1
      rw [if_pos e1, if_pos e1] at e
      exact ⟨0, 0 :: x, 0 :: y, rfl, rfl, fun h => hxy (List.cons.inj h).2, e⟩
    · cases h
  | [], b :: q, i, n, hn, hp, hq, h, g, e => by
    rw [u_nil] at h
    rw [u_cons] at g
    split at h
    · rename_i e
      rw [if_pos e] at g; cases g
    · cases h
  | a :: p, [], i, n, hn, hp, hq, h, g, e => by
    rw [u_cons] at h
    rw [u_nil] at g
    split at g
    · rename_i e
      rw [if_pos e] at h; cases h
    · cases g
  | a :: p, b :: q, i, n, hn, hp, hq, h, g, e => by
    rw [u_cons] at h g
    rw [u_cons, u_cons] at e
    by_cases h1 : n = 1
    · rw [if_pos h1] at h; cases h
    rw [if_neg h1] at h g
    rw [if_neg h1, if_neg h1] at e
    rw [p_cons x a p i (n := n) (by omega), p_cons y b q i (n := n) (by omega)]
    have s1 := splitN_pos n
    have s2 := splitN_lt (n := n) (by omega)
    have ha := hp a (by simp)
    have hb := hq b (by simp)
    by_cases h2 : i < splitN n
    · rw [if_pos h2] at h g e
      rw [if_pos h2] at e
      rw [if_pos h2, if_pos h2]
      have l1 := preR_last x p i (splitN n) s1 h
      have l2 := preR_last y q i (splitN n) s1 g
      have hl := preR_same x y p q i (splitN n) s1 h g
      rw [l1, l2]
      by_cases ht : (upR (leafOf x) p i (splitN n)).1 = (upR (leafOf y) q i (splitN n)).1
      · exact (preR_clash x y hxy p q i (splitN n) s1 (fun s hs => hp s (by simp [hs])) (fun s hs => hq s (by simp [hs])) h g ht).app
      · refine Clash.top hl (fun hc => ht ?_) e
        have hc := (List.cons.inj hc).2
        have q1 : (upR (leafOf x) p i (splitN n)).1.length = 32 := by rw [← l1]; exact sha_length _
        have q2 : (upR (leafOf y) q i (splitN n)).1.length = 32 := by rw [← l2]; exact sha_length _
        exact (List.append_inj hc (by omega)).1
    · rw [if_neg h2] at h g e
      rw [if_neg h2] at e
      rw [if_neg h2, if_neg h2]
      have l1 := preR_last x p (i - splitN n) (n - splitN n) (by omega) h
      have l2 := preR_last y q (i - splitN n) (n - splitN n) (by omega) g
      have hl := preR_same x y p q (i - splitN n) (n - splitN n) (by omega) h g
      rw [l1, l2]
      by_cases ht : (upR (leafOf x) p (i - splitN n) (n - splitN n)).1 = (upR (leafOf y) q (i - splitN n) (n - splitN n)).1
      · exact (preR_clash x y hxy p q (i - splitN n) (n - splitN n) (by omega) (fun s hs => hp s (by simp [hs])) (fun s hs => hq s (by simp [hs])) h g ht).app
      · refine Clash.top hl (fun hc => ht ?_) e
        have hc := (List.cons.inj hc).2
        exact (List.append_inj hc (by omega)).2

end Go.Proofs.YtoddabjacjkjbaaDoor
