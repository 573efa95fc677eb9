/-
  Plain laws of Merkle trees: a path is accepted and short; what is accepted is in the tree, or two texts have one sum.
-/
import Derived.Test.YtgbdfpfiolbhlaaDoorMkc
namespace Go.Proofs.YtgbdfpfiolbhlaaDoor
open Go Go.RowKit
set_option linter.unusedVariables false

theorem getD_take {l : List Str} {i k : Nat} (h : i < k) : (l.take k).getD i [] = l.getD i [] := by
  rw [List.getD_eq_getElem?_getD, List.getD_eq_getElem?_getD, List.getElem?_take, if_pos h]
theorem getD_drop {l : List Str} {i k : Nat} (h : k ≤ i) : (l.drop k).getD (i - k) [] = l.getD i [] := by
  rw [List.getD_eq_getElem?_getD, List.getD_eq_getElem?_getD, List.getElem?_drop]
  congr 2; omega

/-- The path of a leaf is accepted with the root. -/
theorem up_path : ∀ (n : Nat) (l : List Str) (i : Nat), l.length = n → i < n → upR (l.getD i []) (pathR l i) i n = (rootOf l, true) := by
  intro n
  induction n using Nat.strongRecOn with
  | _ n ih =>
  intro l i hn hi
  by_cases h1 : n = 1
  · subst h1
    obtain rfl : i = 0 := by omega
    rw [pathR_one (by omega), upR_nil1, rootOf_one hn]
  have h2 : 2 ≤ l.length := by omega
  have hk := splitN_lt h2
  have hk0 := splitN_pos l.length
  rw [hn] at hk hk0
  by_cases c : i < splitN n
  · rw [pathR_lo h2 (by rw [hn]; exact c), upR_lo _ _ _ h1 c, rootOf_two h2, hn]
    have := ih (splitN n) hk (l.take (splitN n)) i (by rw [List.length_take]; omega) c
    rw [getD_take c] at this
    rw [this]
  · rw [pathR_hi h2 (by rw [hn]; exact c), upR_hi _ _ _ h1 c, rootOf_two h2, hn]
    have := ih (n - splitN n) (by omega) (l.drop (splitN n)) (i - splitN n) (by rw [List.length_drop, hn]) (by omega)
    rw [getD_drop (by omega)] at this
    rw [this]

theorem blen_split {n : Nat} (h : 2 ≤ n) : blen (n - 1) = Nat.log2 (n - 1) + 1 := by
  rw [blen, if_neg (by omega)]
/-- A path has no more elements than the last index has bits. -/
theorem pathR_bits : ∀ (n : Nat) (l : List Str) (i : Nat), l.length = n → (pathR l i).length ≤ blen (n - 1) := by
  intro n
  induction n using Nat.strongRecOn with
  | _ n ih =>
  intro l i hn
  by_cases h1 : n ≤ 1
  · rw [pathR_one (by omega)]; exact Nat.zero_le _
  have h2 : 2 ≤ l.length := by omega
  have hk := splitN_lt h2
  have hk0 := splitN_pos l.length
  have hk1 := splitN_ge h2
  rw [hn] at hk hk0 hk1
  rw [blen_split (by omega)]
  by_cases c : i < splitN n
  · rw [pathR_lo h2 (by rw [hn]; exact c), hn, List.length_cons]
    have := ih (splitN n) hk (l.take (splitN n)) i (by rw [List.length_take]; omega)
    have h3 : blen (splitN n - 1) ≤ Nat.log2 (n - 1) := blen_lt (by unfold splitN at *; omega)
    omega
  · rw [pathR_hi h2 (by rw [hn]; exact c), hn, List.length_cons]
    have := ih (n - splitN n) (by omega) (l.drop (splitN n)) (i - splitN n) (by rw [List.length_drop, hn])
    have h3 : blen (n - splitN n - 1) ≤ Nat.log2 (n - 1) := blen_lt (by unfold splitN at *; omega)
    omega

theorem sumsB_iff {l : List Str} : sumsB l = true ↔ ∀ s ∈ l, s.length = 32 := by simp [sumsB]
theorem sumsB_takeK {l : List Str} (h : sumsB l = true) (k : Nat) : sumsB (l.take k) = true := sumsB_iff.2 fun s hs => sumsB_iff.1 h s (List.mem_of_mem_take hs)
theorem sumsB_dropK {l : List Str} (h : sumsB l = true) (k : Nat) : sumsB (l.drop k) = true := sumsB_iff.2 fun s hs => sumsB_iff.1 h s (List.mem_of_mem_drop hs)
theorem root_sum {l : List Str} (h : sumsB l = true) : (rootOf l).length = 32 := by
  by_cases h1 : l.length = 1
  · rw [rootOf_one h1, List.getD_eq_getElem?_getD, List.getElem?_eq_getElem (by omega)]
    exact sumsB_iff.1 h _ (List.getElem_mem _)
  · exact rootOf_length h1
theorem pathR_sums : ∀ (n : Nat) (l : List Str) (i : Nat), l.length = n → sumsB l = true → sumsB (pathR l i) = true := by
  intro n
  induction n using Nat.strongRecOn with
  | _ n ih =>
  intro l i hn hl
  by_cases h1 : n ≤ 1
  · rw [pathR_one (by omega)]; rfl
  have h2 : 2 ≤ l.length := by omega
  have hk := splitN_lt h2
  have hk0 := splitN_pos l.length
  by_cases c : i < splitN l.length
  · rw [pathR_lo h2 c]
    have := ih (splitN l.length) (by omega) (l.take (splitN l.length)) i (by rw [List.length_take]; omega) (sumsB_takeK hl _)
    rw [sumsB_iff] at this ⊢
    intro s hs
    rcases List.mem_cons.1 hs with rfl | hs
    · exact root_sum (sumsB_dropK hl _)
    · exact this s hs
  · rw [pathR_hi h2 c]
    have := ih (l.length - splitN l.length) (by omega) (l.drop (splitN l.length)) (i - splitN l.length) (by rw [List.length_drop]) (sumsB_dropK hl _)
    rw [sumsB_iff] at this ⊢
    intro s hs
    rcases List.mem_cons.1 hs with rfl | hs
    · exact root_sum (sumsB_takeK hl _)
    · exact this s hs
theorem sumsB_reverse {l : List Str} : sumsB l.reverse = sumsB l := by simp [sumsB]

/-- The law MerkleProves. -/
theorem proves {l : List Str} {i : Nat} (hi : i < l.length) (hl : sumsB l = true) : verifyB (l.getD i []) i l.length (pathOf l i) (rootOf l) = true := by
  have h1 : (l.getD i []).length = 32 := by
    rw [List.getD_eq_getElem?_getD, List.getElem?_eq_getElem hi]
    exact sumsB_iff.1 hl _ (List.getElem_mem _)
  have e1 : decide ((0 : Int) ≤ i) = true := decide_eq_true (by omega)
  have e2 : decide ((i : Int) < l.length) = true := decide_eq_true (by omega)
  have e3 : sumsB (pathOf l i) = true := by rw [pathOf, sumsB_reverse]; exact pathR_sums _ l i rfl hl
  rw [verifyB, e1, e2, h1, root_sum hl, e3]
  simp only [upOf, Int.toNat_natCast, pathOf, List.reverse_reverse, up_path _ l i rfl hi]
  simp

/-! ### what is accepted -/
def collB (a b : Str) : Bool := decide (a ≠ b) && decide (sha a = sha b)
theorem collB_true {a b : Str} (h : a ≠ b) (hs : sha a = sha b) : collB a b = true := by rw [collB, decide_eq_true h, decide_eq_true hs]; rfl
/-- The root that results from a leaf (recompute). -/
def recR (leaf : Str) : List Str → Nat → Nat → Str
  | [], _, _ => leaf
  | last :: rest, i, n => if n = 1 then leaf else
    if i < splitN n then nodeOf (recR leaf rest i (splitN n)) last else nodeOf last (recR leaf rest (i - splitN n) (n - splitN n))
theorem recR_up {leaf : Str} : ∀ (rp : List Str) (i n : Nat), (upR leaf rp i n).2 = true → recR leaf rp i n = (upR leaf rp i n).1
  | [], i, n => by
    intro h
    by_cases h1 : n = 1
    · subst h1; rw [upR_nil1]; rfl
    · rw [upR_niln _ _ h1] at h; cases h
  | last :: rest, i, n => by
    intro h
    by_cases h1 : n = 1
    · subst h1; rw [upR_one] at h; cases h
    by_cases c : i < splitN n
    · rw [upR_lo _ _ _ h1 c] at h ⊢
      rw [recR, if_neg h1, if_pos c, recR_up rest _ _ h]
    · rw [upR_hi _ _ _ h1 c] at h ⊢
      rw [recR, if_neg h1, if_neg c, recR_up rest _ _ h]
theorem recR_len {leaf : Str} (hl : leaf.length ≤ 1000000) : ∀ (rp : List Str) (i n : Nat), (recR leaf rp i n).length ≤ 1000000
  | [], i, n => hl
  | last :: rest, i, n => by
    unfold recR
    split
    · exact hl
    · split
      · rw [nodeOf_length]; omega
      · rw [nodeOf_length]; omega

def reachR (leaf : Str) : List Str → List Str → Nat → Bool
  | [], l, i => decide (leaf = l.getD 0 [])
  | last :: rest, l, i => if l.length = 1 then decide (leaf = l.getD 0 []) else
    if i < splitN l.length then
      (if 1 :: (recR leaf rest i (splitN l.length) ++ last) = 1 :: (rootOf (l.take (splitN l.length)) ++ rootOf (l.drop (splitN l.length))) then reachR leaf rest (l.take (splitN l.length)) i
       else collB (1 :: (recR leaf rest i (splitN l.length) ++ last)) (1 :: (rootOf (l.take (splitN l.length)) ++ rootOf (l.drop (splitN l.length)))))
    else
      (if 1 :: (last ++ recR leaf rest (i - splitN l.length) (l.length - splitN l.length)) = 1 :: (rootOf (l.take (splitN l.length)) ++ rootOf (l.drop (splitN l.length))) then reachR leaf rest (l.drop (splitN l.length)) (i - splitN l.length)
       else collB (1 :: (last ++ recR leaf rest (i - splitN l.length) (l.length - splitN l.length))) (1 :: (rootOf (l.take (splitN l.length)) ++ rootOf (l.drop (splitN l.length)))))

theorem app_left {a b c d : Str} (h : a ++ b = c ++ d) (hl : b.length = d.length) : a = c ∧ b = d := by
  have hl2 : a.length = c.length := by have := congrArg List.length h; simp only [List.length_append] at this; omega
  exact List.append_inj h hl2

/-- What is accepted has as many elements as the path. -/
theorem up_length : ∀ (rp : List Str) (leaf : Str) (l : List Str) (i : Nat), i < l.length → (upR leaf rp i l.length).2 = true → rp.length = (pathR l i).length
  | [], leaf, l, i => by
    intro hi h
    by_cases h1 : l.length = 1
    · rw [pathR_one (by omega)]
    · rw [upR_niln _ _ h1] at h; cases h
  | last :: rest, leaf, l, i => by
    intro hi h
    by_cases h1 : l.length = 1
    · rw [h1, upR_one] at h; cases h
    have h2 : 2 ≤ l.length := by omega
    have hk := splitN_lt h2
    by_cases c : i < splitN l.length
    · rw [upR_lo _ _ _ h1 c] at h
      rw [pathR_lo h2 c, List.length_cons, List.length_cons, up_length rest leaf (l.take (splitN l.length)) i (by rw [List.length_take]; omega) (by rw [List.length_take, Nat.min_eq_left (by omega)]; exact h)]
    · rw [upR_hi _ _ _ h1 c] at h
      rw [pathR_hi h2 c, List.length_cons, List.length_cons, up_length rest leaf (l.drop (splitN l.length)) (i - splitN l.length) (by rw [List.length_drop]; omega) (by rw [List.length_drop]; exact h)]

theorem sound : ∀ (rp : List Str) (leaf : Str) (l : List Str) (i : Nat), i < l.length → sumsB l = true → sumsB rp = true → upR leaf rp i l.length = (rootOf l, true) → reachR leaf rp l i = true
  | [], leaf, l, i => by
    intro hi hl hr h
    by_cases h1 : l.length = 1
    · rw [h1, upR_nil1, rootOf_one h1] at h
      exact decide_eq_true (congrArg Prod.fst h)
    · rw [upR_niln _ _ h1] at h; cases congrArg Prod.snd h
  | last :: rest, leaf, l, i => by
    intro hi hl hr h
    by_cases h1 : l.length = 1
    · rw [h1, upR_one] at h; cases congrArg Prod.snd h
    have h2 : 2 ≤ l.length := by omega
    have hk := splitN_lt h2
    have hlast : last.length = 32 := sumsB_iff.1 hr _ (List.mem_cons_self ..)
    have hrest : sumsB rest = true := sumsB_iff.2 fun s hs => sumsB_iff.1 hr s (List.mem_cons_of_mem _ hs)
    by_cases c : i < splitN l.length
    · rw [upR_lo _ _ _ h1 c] at h
      have ht : (upR leaf rest i (splitN l.length)).2 = true := congrArg Prod.snd h
      have hn : nodeOf (upR leaf rest i (splitN l.length)).1 last = rootOf l := congrArg Prod.fst h
      rw [rootOf_two h2] at hn
      rw [reachR, if_neg h1, if_pos c, recR_up _ _ _ ht]
      split
      · rename_i e
        have e2 := (app_left (List.cons.inj e).2 (by rw [hlast, root_sum (sumsB_dropK hl _)])).1
        refine sound rest leaf (l.take (splitN l.length)) i (by rw [List.length_take]; omega) (sumsB_takeK hl _) hrest ?_
        rw [List.length_take, Nat.min_eq_left (by omega), ← e2, ← ht]
      · rename_i e
        exact collB_true e hn
    · rw [upR_hi _ _ _ h1 c] at h
      have ht : (upR leaf rest (i - splitN l.length) (l.length - splitN l.length)).2 = true := congrArg Prod.snd h
      have hn : nodeOf last (upR leaf rest (i - splitN l.length) (l.length - splitN l.length)).1 = rootOf l := congrArg Prod.fst h
      rw [rootOf_two h2] at hn
      rw [reachR, if_neg h1, if_neg c, recR_up _ _ _ ht]
      split
      · rename_i e
        have e2 := (List.append_inj (List.cons.inj e).2 (by rw [hlast, root_sum (sumsB_takeK hl _)])).2
        refine sound rest leaf (l.drop (splitN l.length)) (i - splitN l.length) (by rw [List.length_drop]; omega) (sumsB_dropK hl _) hrest ?_
        rw [List.length_drop, ← e2, ← ht]
      · rename_i e
        exact collB_true e hn

/-! ### two leaves with one path -/
def meetR (a b : Str) : List Str → Nat → Nat → Bool
  | [], _, _ => false
  | last :: rest, i, n => if n = 1 then false else
    if i < splitN n then meetR a b rest i (splitN n) || collB (1 :: (recR a rest i (splitN n) ++ last)) (1 :: (recR b rest i (splitN n) ++ last))
    else meetR a b rest (i - splitN n) (n - splitN n) || collB (1 :: (last ++ recR a rest (i - splitN n) (n - splitN n))) (1 :: (last ++ recR b rest (i - splitN n) (n - splitN n)))
theorem meets : ∀ (rp : List Str) (a b r : Str) (i n : Nat), a ≠ b → upR a rp i n = (r, true) → upR b rp i n = (r, true) → meetR a b rp i n = true
  | [], a, b, r, i, n => by
    intro hab ha hb
    by_cases h1 : n = 1
    · subst h1
      rw [upR_nil1] at ha hb
      exact absurd ((congrArg Prod.fst ha).trans (congrArg Prod.fst hb).symm) hab
    · rw [upR_niln _ _ h1] at ha; cases congrArg Prod.snd ha
  | last :: rest, a, b, r, i, n => by
    intro hab ha hb
    by_cases h1 : n = 1
    · subst h1; rw [upR_one] at ha; cases congrArg Prod.snd ha
    by_cases c : i < splitN n
    · rw [upR_lo _ _ _ h1 c] at ha hb
      have ta : (upR a rest i (splitN n)).2 = true := congrArg Prod.snd ha
      have tb : (upR b rest i (splitN n)).2 = true := congrArg Prod.snd hb
      have na : nodeOf (upR a rest i (splitN n)).1 last = r := congrArg Prod.fst ha
      have nb : nodeOf (upR b rest i (splitN n)).1 last = r := congrArg Prod.fst hb
      rw [meetR, if_neg h1, if_pos c, recR_up _ _ _ ta, recR_up _ _ _ tb]
      by_cases e : (upR a rest i (splitN n)).1 = (upR b rest i (splitN n)).1
      · rw [meets rest a b (upR a rest i (splitN n)).1 i (splitN n) hab (by rw [← ta]) (by rw [e, ← tb]), Bool.true_or]
      · rw [collB_true (fun h => e (List.append_cancel_right (List.cons.inj h).2)) (na.trans nb.symm), Bool.or_true]
    · rw [upR_hi _ _ _ h1 c] at ha hb
      have ta : (upR a rest (i - splitN n) (n - splitN n)).2 = true := congrArg Prod.snd ha
      have tb : (upR b rest (i - splitN n) (n - splitN n)).2 = true := congrArg Prod.snd hb
      have na : nodeOf last (upR a rest (i - splitN n) (n - splitN n)).1 = r := congrArg Prod.fst ha
      have nb : nodeOf last (upR b rest (i - splitN n) (n - splitN n)).1 = r := congrArg Prod.fst hb
      rw [meetR, if_neg h1, if_neg c, recR_up _ _ _ ta, recR_up _ _ _ tb]
      by_cases e : (upR a rest (i - splitN n) (n - splitN n)).1 = (upR b rest (i - splitN n) (n - splitN n)).1
      · rw [meets rest a b (upR a rest (i - splitN n) (n - splitN n)).1 (i - splitN n) (n - splitN n) hab (by rw [← ta]) (by rw [e, ← tb]), Bool.true_or]
      · rw [collB_true (fun h => e (List.append_cancel_left (List.cons.inj h).2)) (na.trans nb.symm), Bool.or_true]

end Go.Proofs.YtgbdfpfiolbhlaaDoor
