/-
  Merkle trees as plain functions on lists of texts. Nothing here names a program.
-/
import Derived.Test.YtgbdfpfiolbhlaaDoorSha
namespace Go.Proofs.YtgbdfpfiolbhlaaDoor
open Go Go.RowKit
set_option linter.unusedVariables false

abbrev Str := List UInt8

def leafOf (x : Str) : Str := sha (0 :: x)
def nodeOf (l r : Str) : Str := sha (1 :: (l ++ r))
/-- the number of bits -/
def blen (m : Nat) : Nat := if m = 0 then 0 else Nat.log2 m + 1
def splitN (n : Nat) : Nat := 2 ^ Nat.log2 (n - 1)

theorem splitN_pos (n : Nat) : 0 < splitN n := Nat.two_pow_pos _
theorem splitN_lt {n : Nat} (h : 2 ≤ n) : splitN n < n := by
  have := Nat.log2_self_le (n := n - 1) (by omega)
  unfold splitN; omega
theorem splitN_ge {n : Nat} (h : 2 ≤ n) : n ≤ 2 * splitN n := by
  have : n - 1 < 2 ^ (Nat.log2 (n - 1) + 1) := Nat.lt_log2_self
  unfold splitN
  rw [Nat.pow_succ] at this
  omega
/-- The power of two below n that is at least half of it. -/
theorem splitN_unique {n k e : Nat} (hk : k = 2 ^ e) (h1 : k < n) (h2 : n ≤ 2 * k) : k = splitN n := by
  have hn : n - 1 ≠ 0 := by have := Nat.two_pow_pos e; omega
  have : Nat.log2 (n - 1) = e := by
    rw [Nat.log2_eq_iff hn]
    rw [Nat.pow_succ]
    omega
  rw [splitN, this, hk]

def rootOf (l : List Str) : Str :=
  if h0 : l.length = 0 then sha [] else if h1 : l.length = 1 then l.getD 0 []
  else nodeOf (rootOf (l.take (splitN l.length))) (rootOf (l.drop (splitN l.length)))
termination_by l.length
decreasing_by
  · rw [List.length_take]; have := splitN_lt (n := l.length) (by omega); omega
  · rw [List.length_drop]; have := splitN_pos l.length; omega

theorem rootOf_zero {l : List Str} (h : l.length = 0) : rootOf l = sha [] := by rw [rootOf, dif_pos h]
theorem rootOf_one {l : List Str} (h : l.length = 1) : rootOf l = l.getD 0 [] := by rw [rootOf, dif_neg (by omega), dif_pos h]
theorem rootOf_two {l : List Str} (h : 2 ≤ l.length) : rootOf l = nodeOf (rootOf (l.take (splitN l.length))) (rootOf (l.drop (splitN l.length))) := by
  rw [rootOf, dif_neg (by omega), dif_neg (by omega)]

/-- The path of a leaf, from above. -/
def pathR (l : List Str) (i : Nat) : List Str :=
  if h : l.length ≤ 1 then [] else
    if i < splitN l.length then rootOf (l.drop (splitN l.length)) :: pathR (l.take (splitN l.length)) i
    else rootOf (l.take (splitN l.length)) :: pathR (l.drop (splitN l.length)) (i - splitN l.length)
termination_by l.length
decreasing_by
  · rw [List.length_take]; have := splitN_lt (n := l.length) (by omega); omega
  · rw [List.length_drop]; have := splitN_pos l.length; omega
def pathOf (l : List Str) (i : Nat) : List Str := (pathR l i).reverse

theorem pathR_one {l : List Str} {i : Nat} (h : l.length ≤ 1) : pathR l i = [] := by rw [pathR, dif_pos h]
theorem pathR_lo {l : List Str} {i : Nat} (h : 2 ≤ l.length) (hi : i < splitN l.length) : pathR l i = rootOf (l.drop (splitN l.length)) :: pathR (l.take (splitN l.length)) i := by
  rw [pathR, dif_neg (by omega), if_pos hi]
theorem pathR_hi {l : List Str} {i : Nat} (h : 2 ≤ l.length) (hi : ¬ i < splitN l.length) : pathR l i = rootOf (l.take (splitN l.length)) :: pathR (l.drop (splitN l.length)) (i - splitN l.length) := by
  rw [pathR, dif_neg (by omega), if_neg hi]

/-- The root that results from a leaf and a path (from above), and whether its elements are just used up. -/
def upR (leaf : Str) : List Str → Nat → Nat → Str × Bool
  | [], _, n => if n = 1 then (leaf, true) else ([], false)
  | last :: rest, i, n => if n = 1 then (leaf, false) else
    if i < splitN n then (nodeOf (upR leaf rest i (splitN n)).1 last, (upR leaf rest i (splitN n)).2)
    else (nodeOf last (upR leaf rest (i - splitN n) (n - splitN n)).1, (upR leaf rest (i - splitN n) (n - splitN n)).2)
def upOf (leaf : Str) (i n : Nat) (path : List Str) : Str × Bool := upR leaf path.reverse i n

def sumsB (l : List Str) : Bool := l.all fun s => s.length == 32
def verifyB (leaf : Str) (i n : Int) (path : List Str) (root : Str) : Bool :=
  decide (0 ≤ i) && decide (i < n) && (leaf.length == 32) && (root.length == 32) && sumsB path && ((upOf leaf i.toNat n.toNat path).2 && ((upOf leaf i.toNat n.toNat path).1 == root))

/-- The proof that m leaves are a prefix, from above. -/
def proofR (l : List Str) (m : Nat) (b : Bool) : List Str :=
  if h : m = l.length ∨ l.length ≤ 1 then (if b then [] else [rootOf l]) else
    if m ≤ splitN l.length then rootOf (l.drop (splitN l.length)) :: proofR (l.take (splitN l.length)) m b
    else rootOf (l.take (splitN l.length)) :: proofR (l.drop (splitN l.length)) (m - splitN l.length) false
termination_by l.length
decreasing_by
  · rw [List.length_take]; have := splitN_lt (n := l.length) (by omega); omega
  · rw [List.length_drop]; have := splitN_pos l.length; omega
def proofOf (l : List Str) (m : Nat) : List Str := (proofR l m true).reverse

theorem proofR_eq {l : List Str} {m : Nat} {b : Bool} (h : m = l.length) : proofR l m b = if b then [] else [rootOf l] := by rw [proofR, dif_pos (.inl h)]
theorem proofR_lo {l : List Str} {m : Nat} {b : Bool} (h : m ≠ l.length) (h2 : 2 ≤ l.length) (hi : m ≤ splitN l.length) : proofR l m b = rootOf (l.drop (splitN l.length)) :: proofR (l.take (splitN l.length)) m b := by
  rw [proofR, dif_neg (by omega), if_pos hi]
theorem proofR_hi {l : List Str} {m : Nat} {b : Bool} (h : m ≠ l.length) (h2 : 2 ≤ l.length) (hi : ¬ m ≤ splitN l.length) : proofR l m b = rootOf (l.take (splitN l.length)) :: proofR (l.drop (splitN l.length)) (m - splitN l.length) false := by
  rw [proofR, dif_neg (by omega), if_neg hi]

/-- Two roots out of a proof (from above), and whether its elements are just used up. -/
def bothR (old : Str) : List Str → Nat → Nat → Bool → Str × Str × Bool
  | [], m, n, b => if m = n then (if b then (old, old, true) else ([], [], false)) else ([], [], false)
  | last :: rest, m, n, b => if m = n then (if b then (old, old, false) else match rest with | [] => (last, last, true) | _ :: _ => ([], [], false)) else
    if m ≤ splitN n then ((bothR old rest m (splitN n) b).1, nodeOf (bothR old rest m (splitN n) b).2.1 last, (bothR old rest m (splitN n) b).2.2)
    else (nodeOf last (bothR old rest (m - splitN n) (n - splitN n) false).1, nodeOf last (bothR old rest (m - splitN n) (n - splitN n) false).2.1, (bothR old rest (m - splitN n) (n - splitN n) false).2.2)
def bothOf (old : Str) (m n : Nat) (b : Bool) (proof : List Str) : Str × Str × Bool := bothR old proof.reverse m n b
def consistentB (m n : Int) (old new : Str) (proof : List Str) : Bool :=
  decide (0 ≤ m) && decide (m ≤ n) && (old.length == 32) && (new.length == 32) && sumsB proof &&
    (if m = 0 then proof.isEmpty && (old == sha []) && (decide (0 < n) || (new == old))
     else (bothOf old m.toNat n.toNat true proof).2.2 && ((bothOf old m.toNat n.toNat true proof).1 == old) && ((bothOf old m.toNat n.toNat true proof).2.1 == new))

/-- The leaves of the blocks of a byte string. -/
def blockLeaves (size : Nat) (x : Str) : List Str :=
  if h : x.length = 0 ∨ size = 0 then [] else leafOf (x.take size) :: blockLeaves size (x.drop size)
termination_by x.length
decreasing_by rw [List.length_drop]; omega

theorem blockLeaves_nil {size : Nat} : blockLeaves size [] = [] := by rw [blockLeaves, dif_pos (.inl rfl)]
theorem blockLeaves_cons {size : Nat} {x : Str} (h : 0 < x.length) (hs : 0 < size) : blockLeaves size x = leafOf (x.take size) :: blockLeaves size (x.drop size) := by
  rw [blockLeaves, dif_neg (by omega)]

theorem leafOf_length (x : Str) : (leafOf x).length = 32 := sha_length _
theorem nodeOf_length (l r : Str) : (nodeOf l r).length = 32 := sha_length _
theorem rootOf_length {l : List Str} : l.length ≠ 1 → (rootOf l).length = 32 := by
  intro h
  by_cases h0 : l.length = 0
  · rw [rootOf_zero h0]; exact sha_length _
  · rw [rootOf_two (by omega)]; exact nodeOf_length _ _

/-! ### numbers of bits -/
theorem blen_shift {m k : Nat} (h : 2 ^ k ≤ m) : blen m = k + blen (m / 2 ^ k) := by
  have hp := Nat.two_pow_pos k
  have hm : m ≠ 0 := by omega
  have hd : m / 2 ^ k ≠ 0 := by
    have := Nat.div_pos h hp; omega
  rw [blen, if_neg hm, blen, if_neg hd]
  have : Nat.log2 m = k + Nat.log2 (m / 2 ^ k) := by
    rw [Nat.log2_eq_iff hm]
    have h1 := Nat.log2_self_le hd
    have h2 : m / 2 ^ k < 2 ^ (Nat.log2 (m / 2 ^ k) + 1) := Nat.lt_log2_self
    constructor
    · rw [Nat.pow_add]
      calc 2 ^ k * 2 ^ Nat.log2 (m / 2 ^ k) ≤ 2 ^ k * (m / 2 ^ k) := Nat.mul_le_mul_left _ h1
        _ ≤ m := Nat.mul_div_le m _
    · rw [Nat.add_assoc, Nat.pow_add]
      have h3 : m < 2 ^ k * (m / 2 ^ k + 1) := by
        have := Nat.div_add_mod m (2 ^ k)
        have := Nat.mod_lt m hp
        rw [Nat.mul_add]; omega
      exact Nat.lt_of_lt_of_le h3 (Nat.mul_le_mul_left _ h2)
  omega
theorem blen_lt {m k : Nat} (h : m < 2 ^ k) : blen m ≤ k := by
  unfold blen
  split
  · omega
  · rename_i hm
    have := (Nat.log2_lt hm).2 h
    omega

end Go.Proofs.YtgbdfpfiolbhlaaDoor
