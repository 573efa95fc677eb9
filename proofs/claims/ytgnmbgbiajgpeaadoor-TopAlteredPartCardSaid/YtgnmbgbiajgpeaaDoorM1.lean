/-
  Merkle trees as plain functions on lists of texts. Nothing here names a program.
-/
import Derived.Test.YtgnmbgbiajgpeaaDoorSha
import Derived.Test.YtgnmbgbiajgpeaaDoorH2
namespace Go.Proofs.YtgnmbgbiajgpeaaDoor
open Go Go.RowKit
set_option linter.unusedVariables false

abbrev Str := List UInt8

def leafOf (x : Str) : Str := sha (0 :: x)
def nodeOf (l r : Str) : Str := sha (1 :: (l ++ r))
/-- the number of bits -/
def blen (m : Nat) : Nat := if m = 0 then 0 else Nat.log2 m + 1
def splitN (n : Nat) : Nat := 2 ^ Nat.log2 (n - 1)

theorem splitN_pos (n : Nat) : 0 < splitN n := Nat.two_pow_pos _
theorem splitN_lt {n : Nat} (h : 2 ≤ n) : splitN n < n := by
  have := Nat.log2_self_le (n := n - 1) (by omega)
  unfold splitN; omega
theorem splitN_ge {n : Nat} (h : 2 ≤ n) : n ≤ 2 * splitN n := by
  have : n - 1 < 2 ^ (Nat.log2 (n - 1) + 1) := Nat.lt_log2_self
  unfold splitN
  rw [Nat.pow_succ] at this
  omega
/-- The power of two below n that is at least half of it. -/
theorem splitN_unique {n k e : Nat} (hk : k = 2 ^ e) (h1 : k < n) (h2 : n ≤ 2 * k) : k = splitN n := by
  have hn : n - 1 ≠ 0 := by have := Nat.two_pow_pos e; omega
  have : Nat.log2 (n - 1) = e := by
    rw [Nat.log2_eq_iff hn]
    rw [Nat.pow_succ]
    omega
  rw [splitN, this, hk]

def rootOf (l : List Str) : Str :=
  if h0 : l.length = 0 then sha [] else if h1 : l.length = 1 then l.getD 0 []
  else nodeOf (rootOf (l.take (splitN l.length))) (rootOf (l.drop (splitN l.length)))
termination_by l.length
decreasing_by
  · rw [List.length_take]; have := splitN_lt (n := l.length) (by omega); omega
  · rw [List.length_drop]; have := splitN_pos l.length; omega

theorem rootOf_zero {l : List Str} (h : l.length = 0) : rootOf l = sha [] := by rw [rootOf, dif_pos h]
theorem rootOf_one {l : List Str} (h : l.length = 1) : rootOf l = l.getD 0 [] := by rw [rootOf, dif_neg (by omega), dif_pos h]
theorem rootOf_two {l : List Str} (h : 2 ≤ l.length) : rootOf l = nodeOf (rootOf (l.take (splitN l.length))) (rootOf (l.drop (splitN l.length))) := by
  rw [rootOf, dif_neg (by omega), dif_neg (by omega)]

/-- The path of a leaf, from above. -/
def pathR (l : List Str) (i : Nat) : List Str :=
  if h : l.length ≤ 1 then [] else
    if i < splitN l.length then rootOf (l.drop (splitN l.length)) :: pathR (l.take (splitN l.length)) i
    else rootOf (l.take (splitN l.length)) :: pathR (l.drop (splitN l.length)) (i - splitN l.length)
termination_by l.length
decreasing_by
  · rw [List.length_take]; have := splitN_lt (n := l.length) (by omega); omega
  · rw [List.length_drop]; have := splitN_pos l.length; omega
def pathOf (l : List Str) (i : Nat) : List Str := (pathR l i).reverse

theorem pathR_one {l : List Str} {i : Nat} (h : l.length ≤ 1) : pathR l i = [] := by rw [pathR, dif_pos h]
theorem pathR_lo {l : List Str} {i : Nat} (h : 2 ≤ l.length) (hi : i < splitN l.length) : pathR l i = rootOf (l.drop (splitN l.length)) :: pathR (l.take (splitN l.length)) i := by
  rw [pathR, dif_neg (by omega), if_pos hi]
theorem pathR_hi {l : List Str} {i : Nat} (h : 2 ≤ l.length) (hi : ¬ i < splitN l.length) : pathR l i = rootOf (l.take (splitN l.length)) :: pathR (l.drop (splitN l.length)) (i - splitN l.length) := by
  rw [pathR, dif_neg (by omega), if_neg hi]

/-- The root that results from a leaf and a path (from above), and whether its elements are just used up. -/
def upR (leaf : Str) : List Str → Nat → Nat → Str × Bool
  | [], _, n => if n = 1 then (leaf, true) else ([], false)
  | last :: rest, i, n => if n = 1 then (leaf, false) else
    if i < splitN n then (nodeOf (upR leaf rest i (splitN n)).1 last, (upR leaf rest i (splitN n)).2)
    else (nodeOf last (upR leaf rest (i - splitN n) (n - splitN n)).1, (upR leaf rest (i - splitN n) (n - splitN n)).2)
def upOf (leaf : Str) (i n : Nat) (path : List Str) : Str × Bool := upR leaf path.reverse i n

def sumsB (l : List Str) : Bool := l.all fun s => s.length == 32
def verifyB (leaf : Str) (i n : Int) (path : List Str) (root : Str) : Bool :=
  decide (0 ≤ i) && decide (i < n) && (leaf.length == 32) && (root.length == 32) && sumsB path && ((upOf leaf i.toNat n.toNat path).2 && ((upOf leaf i.toNat n.toNat path).1 == root))

/-- The proof that m leaves are a prefix, from above. -/
def proofR (l : List Str) (m : Nat) (b : Bool) : List Str :=
  if h : m = l.length ∨ l.length ≤ 1 then (if b then [] else [rootOf l]) else
    if m ≤ splitN l.length then rootOf (l.drop (splitN l.length)) :: proofR (l.take (splitN l.length)) m b
    else rootOf (l.take (splitN l.length)) :: proofR (l.drop (splitN l.length)) (m - splitN l.length) false
termination_by l.length
decreasing_by
  · rw [List.length_take]; have := splitN_lt (n := l.length) (by omega); omega
  · rw [List.length_drop]; have := splitN_pos l.length; omega
def proofOf (l : List Str) (m : Nat) : List Str := (proofR l m true).reverse

theorem proofR_eq {l : List Str} {m : Nat} {b : Bool} (h : m = l.length) : proofR l m b = if b then [] else [rootOf l] := by rw [proofR, dif_pos (.inl h)]
theorem proofR_lo {l : List Str} {m : Nat} {b : Bool} (h : m ≠ l.length) (h2 : 2 ≤ l.length) (hi : m ≤ splitN l.length) : proofR l m b = rootOf (l.drop (splitN l.length)) :: proofR (l.take (splitN l.length)) m b := by
  rw [proofR, dif_neg (by omega), if_pos hi]
theorem proofR_hi {l : List Str} {m : Nat} {b : Bool} (h : m ≠ l.length) (h2 : 2 ≤ l.length) (hi : ¬ m ≤ splitN l.length) : proofR l m b = rootOf (l.take (splitN l.length)) :: proofR (l.drop (splitN l.length)) (m - splitN l.length) false := by
  rw [proofR, dif_neg (by omega), if_neg hi]

/-- Two roots out of a proof (from above), and whether its elements are just used up. -/
def bothR (old : Str) : List Str → Nat → Nat → Bool → Str × Str × Bool
  | [], m, n, b => if m = n then (if b then (old, old, true) else ([], [], false)) else ([], [], false)
  | last :: rest, m, n, b => if m = n then (if b then (old, old, false) else match rest with | [] => (last, last, true) | _ :: _ => ([], [], false)) else
    if m ≤ splitN n then ((bothR old rest m (splitN n) b).1, nodeOf (bothR old rest m (splitN n) b).2.1 last, (bothR old rest m (splitN n) b).2.2)
    else (nodeOf last (bothR old rest (m - splitN n) (n - splitN n) false).1, nodeOf last (bothR old rest (m - splitN n) (n - splitN n) false).2.1, (bothR old rest (m - splitN n) (n - splitN n) false).2.2)
def bothOf (old : Str) (m n : Nat) (b : Bool) (proof : List Str) : Str × Str × Bool := bothR old proof.reverse m n b
def consistentB (m n : Int) (old new : Str) (proof : List Str) : Bool :=
  decide (0 ≤ m) && decide (m ≤ n) && (old.length == 32) && (new.length == 32) && sumsB proof &&
    (if m = 0 then proof.isEmpty && (old == sha []) && (decide (0 < n) || (new == old))
     else (bothOf old m.toNat n.toNat true proof).2.2 && ((bothOf old m.toNat n.toNat true proof).1 == old) && ((bothOf old m.toNat n.toNat true proof).2.1 == new))

/-- The leaves of the blocks of a byte string. -/
def blockLeaves (size : Nat) (x : Str) : List Str :=
  if h : x.length = 0 ∨ size = 0 then [] else leafOf (x.take size) :: blockLeaves size (x.drop size)
termination_by x.length
decreasing_by rw [List.length_drop]; omega

theorem blockLeaves_nil {size : Nat} : blockLeaves size [] = [] := by rw [blockLeaves, dif_pos (.inl rfl)]
theorem blockLeaves_cons {size : Nat} {x : Str} (h : 0 < x.length) (hs : 0 < size) : blockLeaves size x = leafOf (x.take size) :: blockLeaves size (x.drop size) := by
  rw [blockLeaves, dif_neg (by omega)]

theorem leafOf_length (x : Str) : (leafOf x).length = 32 := sha_length _
theorem nodeOf_length (l r : Str) : (nodeOf l r).length = 32 := sha_length _
theorem rootOf_length {l : List Str} : l.length ≠ 1 → (rootOf l).length = 32 := by
  intro h
  by_cases h0 : l.length = 0
  · rw [rootOf_zero h0]; exact sha_length _
  · rw [rootOf_two (by omega)]; exact nodeOf_length _ _

/-! ### numbers of bits -/
theorem blen_shift {m k : Nat} (h : 2 ^ k ≤ m) : blen m = k + blen (m / 2 ^ k) := by
  have hp := Nat.two_pow_pos k
  have hm : m ≠ 0 := by omega
  have hd : m / 2 ^ k ≠ 0 := by
    have := Nat.div_pos h hp; omega
  rw [blen, if_neg hm, blen, if_neg hd]
  have : Nat.log2 m = k + Nat.log2 (m / 2 ^ k) := by
    rw [Nat.log2_eq_iff hm]
    have h1 := Nat.log2_self_le hd
    have h2 : m / 2 ^ k < 2 ^ (Nat.log2 (m / 2 ^ k) + 1) := Nat.lt_log2_self
    constructor
    · rw [Nat.pow_add]
      calc 2 ^ k * 2 ^ Nat.log2 (m / 2 ^ k) ≤ 2 ^ k * (m / 2 ^ k) := Nat.mul_le_mul_left _ h1
        _ ≤ m := Nat.mul_div_le m _
    · rw [Nat.add_assoc, Nat.pow_add]
      have h3 : m < 2 ^ k * (m / 2 ^ k + 1) := by
        have := Nat.div_add_mod m (2 ^ k)
        have := Nat.mod_lt m hp
        rw [Nat.mul_add]; omega
      exact Nat.lt_of_lt_of_le h3 (Nat.mul_le_mul_left _ h2)
  omega
theorem blen_lt {m k : Nat} (h : m < 2 ^ k) : blen m ≤ k := by
  unfold blen
  split
  · omega
  · rename_i hm
    have := (Nat.log2_lt hm).2 h
    omega

end Go.Proofs.YtgnmbgbiajgpeaaDoor

namespace Go.Proofs.YtgnmbgbiajgpeaaDoor
open Go Go.RowKit
set_option linter.unusedVariables false

theorem Leaf_ok (R : Rd) (hG : ShaG R) (x : List UInt8) (A : Option Addr) (cap : Nat) (hx : x.length ≤ 1152921504606846000) (hcap : x.length ≤ cap) (hs : BsR R (.slice A x.length cap) x) :
    Fn Tryd.prog 24 [.slice A x.length cap] [] R (fun v h => v = .string ⟨⟨leafOf x⟩⟩ ∧ h = []) := by
  refine fn_of_vc mixed tabOk Tryd.func24 rfl (by kernel_rfl) (Nat.le_of_ble_eq_true rfl) ?_
  refine ⟨[], _, New_ok _ (hG.rh _), ?_⟩
  rintro _ _ ⟨g, cs, rfl, rfl, hcs⟩
  refine ⟨rfl, fun g2 => ?_⟩
  refine ⟨[0, 0], _, Fn.frame (h := [_]) (k := [_]) (Write_ok _ ((hG.rh _).rh _) g [] [0] (some ⟨g2, 0, .none⟩) 1 cs (by decide) (by decide) (SlR.own 0 rfl rfl (.inr ⟨g2, rfl⟩)) hcs), ?_⟩
  rintro _ _ ⟨_, rfl, cs1, rfl, hcs1⟩
  refine ⟨[1], _, Write_ok _ (hG.rh _) g [0] x A cap cs1 (by show 1 + x.length ≤ _; omega) hcap (hs.rh _) hcs1, ?_⟩
  rintro _ _ ⟨cs2, rfl, hcs2⟩
  refine ⟨[1], _, StSum_ok _ (hG.rh _) g (0 :: x) cs2 (by rw [List.length_cons]; omega) hcs2, ?_⟩
  rintro _ _ ⟨rfl, rfl⟩
  exact ⟨_, Ent.drop [] [_, _], rfl, rfl⟩

theorem cat_three (l r : Str) : cat [[1], l, r] = 1 :: (l ++ r) := by simp [cat]

theorem Node_ok (R : Rd) (hG : ShaG R) (l r : Str) (hl : l.length ≤ 1000000000) (hr : r.length ≤ 1000000000) :
    Fn Tryd.prog 62 [.string ⟨⟨l⟩⟩, .string ⟨⟨r⟩⟩] [] R (fun v h => v = .string ⟨⟨nodeOf l r⟩⟩ ∧ h = []) := by
  refine fn_of_vc mixed tabOk Tryd.func62 rfl (by kernel_rfl) (Nat.le_of_ble_eq_true rfl) ?_
  refine ⟨rfl, fun g => ?_⟩
  have hc : (cat [[1], l, r]).length ≤ 1152921504606846976 := by rw [cat_three, List.length_cons, List.length_append]; omega
  refine ⟨[], _, Join_ok _ (hG.rh _) [[1], l, r] (some ⟨g, 0, .none⟩) 3 hc (by show 3 ≤ _; omega) (SlR.own 0 rfl rfl (.inr ⟨g, rfl⟩)), ?_⟩
  rintro _ _ ⟨rfl, rfl⟩
  refine ⟨_, Ent.drop [] [_], ?_, rfl⟩
  rw [cat_three]; rfl

/-! ### numbers of bits -/
def lenTab : List UInt8 := (List.range 256).map fun x => UInt8.ofNat (blen x)
theorem lenTab_get {x : Nat} (h : x < 256) : lenTab[x]? = some (UInt8.ofNat (blen x)) := by
  rw [lenTab, List.getElem?_map, List.getElem?_range h]; rfl
theorem blen_small {x : Nat} (h : x < 256) : (UInt8.ofNat (blen x)).toNat = blen x := by
  have := blen_lt (m := x) (k := 8) (by omega)
  rw [UInt8.toNat_ofNat']; omega

set_option maxRecDepth 100000 in
theorem Len64_ok (R : Rd) (m : Nat) (hm : m ≤ 18446744073709551615) : Fn Tryd.prog 94 [.int .u64 m] [] R (fun v h => v = .int .i64 (blen m) ∧ h = []) := by
  refine fn_of_vc mixed tabOk Tryd.func94 rfl (by kernel_rfl) (Nat.le_of_ble_eq_true rfl) ?_
  refine ⟨fun hb => ?_, fun hb => ?_⟩
  · replace hb := of_decide_eq_true hb
    have c32 : 2 ^ 32 ≤ m := by omega
    clear hb
    refine ⟨by decide, ?_⟩
    intro z hz; obtain rfl := u64_shr (s := 32) (by omega) hz; clear hz
    refine ⟨fun hb => ?_, fun hb => ?_⟩
    · replace hb := of_decide_eq_true hb
      have c16 : 2 ^ 16 ≤ m / 2 ^ 32 := by omega
      clear hb
      refine ⟨by decide, ?_⟩
      intro z hz; obtain rfl := u64_shr (s := 16) (by omega) hz; clear hz
      intro z hz; obtain rfl : z = 48 := (by rw [IntKind.wrap_i64] at hz; omega); clear hz
      refine ⟨fun hb => ?_, fun hb => ?_⟩
      · replace hb := of_decide_eq_true hb
        have c8 : 2 ^ 8 ≤ m / 2 ^ 32 / 2 ^ 16 := by omega
        clear hb
        refine ⟨by decide, ?_⟩
        intro z hz; obtain rfl := u64_shr (s := 8) (by omega) hz; clear hz
        intro z hz; obtain rfl : z = 56 := (by rw [IntKind.wrap_i64] at hz; omega); clear hz
        have hM : m / 2 ^ 32 / 2 ^ 16 / 2 ^ 8 < 256 := by omega
        intro z hz; obtain rfl : z = ((m / 2 ^ 32 / 2 ^ 16 / 2 ^ 8 : Nat) : Int) := (by rw [IntKind.wrap_u8] at hz; omega); clear hz
        refine ⟨by omega, UInt8.ofNat (blen (m / 2 ^ 32 / 2 ^ 16 / 2 ^ 8)), (congrArg (fun l : List UInt8 => l[Int.toNat ((m / 2 ^ 32 / 2 ^ 16 / 2 ^ 8 : Nat) : Int)]?) (by kernel_rfl : _ = lenTab)).trans (by show lenTab[Int.toNat ((m / 2 ^ 32 / 2 ^ 16 / 2 ^ 8 : Nat) : Int)]? = _; rw [Int.toNat_natCast]; exact lenTab_get hM), ?_⟩
        intro z hz; obtain rfl : z = ((blen (m / 2 ^ 32 / 2 ^ 16 / 2 ^ 8) : Nat) : Int) := (by rw [blen_small hM, IntKind.wrap_i64] at hz; have := blen_lt (m := m / 2 ^ 32 / 2 ^ 16 / 2 ^ 8) (k := 8) hM; omega); clear hz
        have hB := blen_lt (m := m / 2 ^ 32 / 2 ^ 16 / 2 ^ 8) (k := 8) hM
        intro z hz; obtain rfl : z = ((56 + blen (m / 2 ^ 32 / 2 ^ 16 / 2 ^ 8) : Nat) : Int) := (by rw [IntKind.wrap_i64] at hz; omega); clear hz
        refine ⟨_, Ent.refl _, ?_, rfl⟩
        have e : blen m = 56 + blen (m / 2 ^ 32 / 2 ^ 16 / 2 ^ 8) := by
          have h1 := blen_shift (m := m) (k := 32) (by omega)
          have h2 := blen_shift (m := m / 2 ^ 32) (k := 16) (by omega)
          have h3 := blen_shift (m := m / 2 ^ 32 / 2 ^ 16) (k := 8) (by omega)
          omega
        rw [e]; rfl
      · replace hb := of_decide_eq_false hb
        have c8 : m / 2 ^ 32 / 2 ^ 16 < 2 ^ 8 := by omega
        clear hb
        have hM : m / 2 ^ 32 / 2 ^ 16 < 256 := by omega
        intro z hz; obtain rfl : z = ((m / 2 ^ 32 / 2 ^ 16 : Nat) : Int) := (by rw [IntKind.wrap_u8] at hz; omega); clear hz
        refine ⟨by omega, UInt8.ofNat (blen (m / 2 ^ 32 / 2 ^ 16)), (congrArg (fun l : List UInt8 => l[Int.toNat ((m / 2 ^ 32 / 2 ^ 16 : Nat) : Int)]?) (by kernel_rfl : _ = lenTab)).trans (by show lenTab[Int.toNat ((m / 2 ^ 32 / 2 ^ 16 : Nat) : Int)]? = _; rw [Int.toNat_natCast]; exact lenTab_get hM), ?_⟩
        intro z hz; obtain rfl : z = ((blen (m / 2 ^ 32 / 2 ^ 16) : Nat) : Int) := (by rw [blen_small hM, IntKind.wrap_i64] at hz; have := blen_lt (m := m / 2 ^ 32 / 2 ^ 16) (k := 8) hM; omega); clear hz
        have hB := blen_lt (m := m / 2 ^ 32 / 2 ^ 16) (k := 8) hM
        intro z hz; obtain rfl : z = ((48 + blen (m / 2 ^ 32 / 2 ^ 16) : Nat) : Int) := (by rw [IntKind.wrap_i64] at hz; omega); clear hz
        refine ⟨_, Ent.refl _, ?_, rfl⟩
        have e : blen m = 48 + blen (m / 2 ^ 32 / 2 ^ 16) := by
          have h1 := blen_shift (m := m) (k := 32) (by omega)
          have h2 := blen_shift (m := m / 2 ^ 32) (k := 16) (by omega)
          omega
        rw [e]; rfl
    · replace hb := of_decide_eq_false hb
      have c16 : m / 2 ^ 32 < 2 ^ 16 := by omega
      clear hb
      refine ⟨fun hb => ?_, fun hb => ?_⟩
      · replace hb := of_decide_eq_true hb
        have c8 : 2 ^ 8 ≤ m / 2 ^ 32 := by omega
        clear hb
        refine ⟨by decide, ?_⟩
        intro z hz; obtain rfl := u64_shr (s := 8) (by omega) hz; clear hz
        intro z hz; obtain rfl : z = 40 := (by rw [IntKind.wrap_i64] at hz; omega); clear hz
        have hM : m / 2 ^ 32 / 2 ^ 8 < 256 := by omega
        intro z hz; obtain rfl : z = ((m / 2 ^ 32 / 2 ^ 8 : Nat) : Int) := (by rw [IntKind.wrap_u8] at hz; omega); clear hz
        refine ⟨by omega, UInt8.ofNat (blen (m / 2 ^ 32 / 2 ^ 8)), (congrArg (fun l : List UInt8 => l[Int.toNat ((m / 2 ^ 32 / 2 ^ 8 : Nat) : Int)]?) (by kernel_rfl : _ = lenTab)).trans (by show lenTab[Int.toNat ((m / 2 ^ 32 / 2 ^ 8 : Nat) : Int)]? = _; rw [Int.toNat_natCast]; exact lenTab_get hM), ?_⟩
        intro z hz; obtain rfl : z = ((blen (m / 2 ^ 32 / 2 ^ 8) : Nat) : Int) := (by rw [blen_small hM, IntKind.wrap_i64] at hz; have := blen_lt (m := m / 2 ^ 32 / 2 ^ 8) (k := 8) hM; omega); clear hz
        have hB := blen_lt (m := m / 2 ^ 32 / 2 ^ 8) (k := 8) hM
        intro z hz; obtain rfl : z = ((40 + blen (m / 2 ^ 32 / 2 ^ 8) : Nat) : Int) := (by rw [IntKind.wrap_i64] at hz; omega); clear hz
        refine ⟨_, Ent.refl _, ?_, rfl⟩
        have e : blen m = 40 + blen (m / 2 ^ 32 / 2 ^ 8) := by
          have h1 := blen_shift (m := m) (k := 32) (by omega)
          have h2 := blen_shift (m := m / 2 ^ 32) (k := 8) (by omega)
          omega
        rw [e]; rfl
      · replace hb := of_decide_eq_false hb
        have c8 : m / 2 ^ 32 < 2 ^ 8 := by omega
        clear hb
        have hM : m / 2 ^ 32 < 256 := by omega
        intro z hz; obtain rfl : z = ((m / 2 ^ 32 : Nat) : Int) := (by rw [IntKind.wrap_u8] at hz; omega); clear hz
        refine ⟨by omega, UInt8.ofNat (blen (m / 2 ^ 32)), (congrArg (fun l : List UInt8 => l[Int.toNat ((m / 2 ^ 32 : Nat) : Int)]?) (by kernel_rfl : _ = lenTab)).trans (by show lenTab[Int.toNat ((m / 2 ^ 32 : Nat) : Int)]? = _; rw [Int.toNat_natCast]; exact lenTab_get hM), ?_⟩
        intro z hz; obtain rfl : z = ((blen (m / 2 ^ 32) : Nat) : Int) := (by rw [blen_small hM, IntKind.wrap_i64] at hz; have := blen_lt (m := m / 2 ^ 32) (k := 8) hM; omega); clear hz
        have hB := blen_lt (m := m / 2 ^ 32) (k := 8) hM
        intro z hz; obtain rfl : z = ((32 + blen (m / 2 ^ 32) : Nat) : Int) := (by rw [IntKind.wrap_i64] at hz; omega); clear hz
        refine ⟨_, Ent.refl _, ?_, rfl⟩
        have e : blen m = 32 + blen (m / 2 ^ 32) := by
          have h1 := blen_shift (m := m) (k := 32) (by omega)
          omega
        rw [e]; rfl
  · replace hb := of_decide_eq_false hb
    have c32 : m < 2 ^ 32 := by omega
    clear hb
    refine ⟨fun hb => ?_, fun hb => ?_⟩
    · replace hb := of_decide_eq_true hb
      have c16 : 2 ^ 16 ≤ m := by omega
      clear hb
      refine ⟨by decide, ?_⟩
      intro z hz; obtain rfl := u64_shr (s := 16) (by omega) hz; clear hz
      intro z hz; obtain rfl : z = 16 := (by rw [IntKind.wrap_i64] at hz; omega); clear hz
      refine ⟨fun hb => ?_, fun hb => ?_⟩
      · replace hb := of_decide_eq_true hb
        have c8 : 2 ^ 8 ≤ m / 2 ^ 16 := by omega
        clear hb
        refine ⟨by decide, ?_⟩
        intro z hz; obtain rfl := u64_shr (s := 8) (by omega) hz; clear hz
        intro z hz; obtain rfl : z = 24 := (by rw [IntKind.wrap_i64] at hz; omega); clear hz
        have hM : m / 2 ^ 16 / 2 ^ 8 < 256 := by omega
        intro z hz; obtain rfl : z = ((m / 2 ^ 16 / 2 ^ 8 : Nat) : Int) := (by rw [IntKind.wrap_u8] at hz; omega); clear hz
        refine ⟨by omega, UInt8.ofNat (blen (m / 2 ^ 16 / 2 ^ 8)), (congrArg (fun l : List UInt8 => l[Int.toNat ((m / 2 ^ 16 / 2 ^ 8 : Nat) : Int)]?) (by kernel_rfl : _ = lenTab)).trans (by show lenTab[Int.toNat ((m / 2 ^ 16 / 2 ^ 8 : Nat) : Int)]? = _; rw [Int.toNat_natCast]; exact lenTab_get hM), ?_⟩
        intro z hz; obtain rfl : z = ((blen (m / 2 ^ 16 / 2 ^ 8) : Nat) : Int) := (by rw [blen_small hM, IntKind.wrap_i64] at hz; have := blen_lt (m := m / 2 ^ 16 / 2 ^ 8) (k := 8) hM; omega); clear hz
        have hB := blen_lt (m := m / 2 ^ 16 / 2 ^ 8) (k := 8) hM
        intro z hz; obtain rfl : z = ((24 + blen (m / 2 ^ 16 / 2 ^ 8) : Nat) : Int) := (by rw [IntKind.wrap_i64] at hz; omega); clear hz
        refine ⟨_, Ent.refl _, ?_, rfl⟩
        have e : blen m = 24 + blen (m / 2 ^ 16 / 2 ^ 8) := by
          have h1 := blen_shift (m := m) (k := 16) (by omega)
          have h2 := blen_shift (m := m / 2 ^ 16) (k := 8) (by omega)
          omega
        rw [e]; rfl
      · replace hb := of_decide_eq_false hb
        have c8 : m / 2 ^ 16 < 2 ^ 8 := by omega
        clear hb
        have hM : m / 2 ^ 16 < 256 := by omega
        intro z hz; obtain rfl : z = ((m / 2 ^ 16 : Nat) : Int) := (by rw [IntKind.wrap_u8] at hz; omega); clear hz
        refine ⟨by omega, UInt8.ofNat (blen (m / 2 ^ 16)), (congrArg (fun l : List UInt8 => l[Int.toNat ((m / 2 ^ 16 : Nat) : Int)]?) (by kernel_rfl : _ = lenTab)).trans (by show lenTab[Int.toNat ((m / 2 ^ 16 : Nat) : Int)]? = _; rw [Int.toNat_natCast]; exact lenTab_get hM), ?_⟩
        intro z hz; obtain rfl : z = ((blen (m / 2 ^ 16) : Nat) : Int) := (by rw [blen_small hM, IntKind.wrap_i64] at hz; have := blen_lt (m := m / 2 ^ 16) (k := 8) hM; omega); clear hz
        have hB := blen_lt (m := m / 2 ^ 16) (k := 8) hM
        intro z hz; obtain rfl : z = ((16 + blen (m / 2 ^ 16) : Nat) : Int) := (by rw [IntKind.wrap_i64] at hz; omega); clear hz
        refine ⟨_, Ent.refl _, ?_, rfl⟩
        have e : blen m = 16 + blen (m / 2 ^ 16) := by
          have h1 := blen_shift (m := m) (k := 16) (by omega)
          omega
        rw [e]; rfl
    · replace hb := of_decide_eq_false hb
      have c16 : m < 2 ^ 16 := by omega
      clear hb
      refine ⟨fun hb => ?_, fun hb => ?_⟩
      · replace hb := of_decide_eq_true hb
        have c8 : 2 ^ 8 ≤ m := by omega
        clear hb
        refine ⟨by decide, ?_⟩
        intro z hz; obtain rfl := u64_shr (s := 8) (by omega) hz; clear hz
        intro z hz; obtain rfl : z = 8 := (by rw [IntKind.wrap_i64] at hz; omega); clear hz
        have hM : m / 2 ^ 8 < 256 := by omega
        intro z hz; obtain rfl : z = ((m / 2 ^ 8 : Nat) : Int) := (by rw [IntKind.wrap_u8] at hz; omega); clear hz
        refine ⟨by omega, UInt8.ofNat (blen (m / 2 ^ 8)), (congrArg (fun l : List UInt8 => l[Int.toNat ((m / 2 ^ 8 : Nat) : Int)]?) (by kernel_rfl : _ = lenTab)).trans (by show lenTab[Int.toNat ((m / 2 ^ 8 : Nat) : Int)]? = _; rw [Int.toNat_natCast]; exact lenTab_get hM), ?_⟩
        intro z hz; obtain rfl : z = ((blen (m / 2 ^ 8) : Nat) : Int) := (by rw [blen_small hM, IntKind.wrap_i64] at hz; have := blen_lt (m := m / 2 ^ 8) (k := 8) hM; omega); clear hz
        have hB := blen_lt (m := m / 2 ^ 8) (k := 8) hM
        intro z hz; obtain rfl : z = ((8 + blen (m / 2 ^ 8) : Nat) : Int) := (by rw [IntKind.wrap_i64] at hz; omega); clear hz
        refine ⟨_, Ent.refl _, ?_, rfl⟩
        have e : blen m = 8 + blen (m / 2 ^ 8) := by
          have h1 := blen_shift (m := m) (k := 8) (by omega)
          omega
        rw [e]; rfl
      · replace hb := of_decide_eq_false hb
        have c8 : m < 2 ^ 8 := by omega
        clear hb
        have hM : m < 256 := by omega
        intro z hz; obtain rfl : z = ((m : Nat) : Int) := (by rw [IntKind.wrap_u8] at hz; omega); clear hz
        refine ⟨by omega, UInt8.ofNat (blen (m)), (congrArg (fun l : List UInt8 => l[Int.toNat ((m : Nat) : Int)]?) (by kernel_rfl : _ = lenTab)).trans (by show lenTab[Int.toNat ((m : Nat) : Int)]? = _; rw [Int.toNat_natCast]; exact lenTab_get hM), ?_⟩
        intro z hz; obtain rfl : z = ((blen (m) : Nat) : Int) := (by rw [blen_small hM, IntKind.wrap_i64] at hz; have := blen_lt (m := m) (k := 8) hM; omega); clear hz
        have hB := blen_lt (m := m) (k := 8) hM
        intro z hz; obtain rfl : z = ((0 + blen (m) : Nat) : Int) := (by rw [IntKind.wrap_i64] at hz; omega); clear hz
        refine ⟨_, Ent.refl _, ?_, rfl⟩
        have e : 0 + blen m = blen m := Nat.zero_add _
        rw [e]; rfl

theorem Len_ok (R : Rd) (m : Nat) (hm : m ≤ 18446744073709551615) : Fn Tryd.prog 80 [.int .u64 m] [] R (fun v h => v = .int .i64 (blen m) ∧ h = []) := by
  refine fn_of_vc mixed tabOk Tryd.func80 rfl (by kernel_rfl) (Nat.le_of_ble_eq_true rfl) ?_
  refine ⟨fun h => (by cases h), fun _ => ?_⟩
  refine ⟨[], _, Len64_ok _ m hm, ?_⟩
  rintro _ _ ⟨rfl, rfl⟩
  exact ⟨_, Ent.refl _, rfl, rfl⟩

theorem split_ok (R : Rd) (n : Nat) (h2 : 2 ≤ n) (hn : n ≤ 9223372036854775807) : Fn Tryd.prog 61 [.int .i64 n] [] R (fun v h => v = .int .i64 (splitN n) ∧ h = []) := by
  have hb : blen (n - 1) = Nat.log2 (n - 1) + 1 := by rw [blen, if_neg (by omega)]
  have hl : blen (n - 1) ≤ 63 := blen_lt (by omega)
  have hs := splitN_lt h2
  refine fn_of_vc mixed tabOk Tryd.func61 rfl (by kernel_rfl) (Nat.le_of_ble_eq_true rfl) ?_
  (intro z hz; obtain rfl : z = ((n - 1 : Nat) : Int) := (by first | (rw [IntKind.wrap_i64] at hz; omega) | (rw [IntKind.wrap_u64] at hz; omega) | omega); clear hz)
  (intro z hz; obtain rfl : z = ((n - 1 : Nat) : Int) := (by first | (rw [IntKind.wrap_i64] at hz; omega) | (rw [IntKind.wrap_u64] at hz; omega) | omega); clear hz)
  refine ⟨[], _, Len_ok _ (n - 1) (by omega), ?_⟩
  rintro _ _ ⟨rfl, rfl⟩
  (intro z hz; obtain rfl : z = ((Nat.log2 (n - 1) : Nat) : Int) := (by first | (rw [IntKind.wrap_i64] at hz; omega) | (rw [IntKind.wrap_u64] at hz; omega) | omega); clear hz)
  refine ⟨by omega, ?_⟩
  intro z hz
  obtain rfl : z = ((splitN n : Nat) : Int) := by
    rw [Int.toNat_natCast, show min (Nat.log2 (n - 1)) IntKind.i64.bits = Nat.log2 (n - 1) by simp [IntKind.bits]; omega, IntKind.wrap_i64] at hz
    have e : (1 : Int) * 2 ^ Nat.log2 (n - 1) = ((splitN n : Nat) : Int) := by rw [splitN]; simp
    rw [e] at hz
    omega
  exact ⟨_, Ent.refl _, rfl, rfl⟩

/-! ### parts of a slice of texts -/
theorem SsR.sub {R : Rd} {A : Option Addr} {n cap : Nat} {b : List Str} (hb : SsR R (.slice A n cap) b) {l h : Nat} (h1 : l ≤ h) (h2 : h ≤ b.length) (hc : b.length ≤ cap) : SsR R (.slice (sliceBase A cap l 1) (h - l) (cap - l)) ((b.drop l).take (h - l)) := by
  have hl : ((b.drop l).take (h - l)).length = h - l := by rw [List.length_take, List.length_drop]; omega
  refine ⟨by rw [SV_length, Nat.mul_one], _, _, by rw [hl], fun j u hu => ?_⟩
  rw [SV, List.getElem?_map] at hu
  cases hj : ((b.drop l).take (h - l))[j]? with
  | none => rw [hj] at hu; cases hu
  | some y =>
    rw [hj] at hu
    simp only [Option.map_some, Option.some.injEq] at hu
    subst hu
    have hjl := (List.getElem?_eq_some_iff.1 hj).1
    rw [List.getElem?_take_of_lt (by omega), List.getElem?_drop] at hj
    obtain ⟨a, rfl, hr⟩ := hb.at_ hj
    refine ⟨a.add (l * 1), ?_, by rw [add_add, Nat.mul_one]; exact hr⟩
    unfold sliceBase
    rw [if_neg (by omega)]; rfl
/-- A slice of texts with its room. -/
def Ss (R : Rd) (v : Value) (l : List Str) : Prop := ∃ A cap, v = .slice A l.length cap ∧ l.length ≤ cap ∧ SsR R v l
theorem Ss.mono {R R' : Rd} {v : Value} {l : List Str} (h : Ss R v l) (hr : ∀ a v, R a v → R' a v) : Ss R' v l := by
  obtain ⟨A, cap, rfl, hc, hs⟩ := h
  exact ⟨A, cap, rfl, hc, hs.mono hr⟩
theorem Ss.rh {R : Rd} {v : Value} {l : List Str} (h : Ss R v l) (hp : Hp) : Ss (RH R hp) v l := h.mono fun _ _ => .inl
theorem Ss.take {R : Rd} {A : Option Addr} {cap : Nat} {l : List Str} (h : Ss R (.slice A l.length cap) l) {k : Nat} (hk : k ≤ l.length) : Ss R (.slice (sliceBase A cap 0 1) (k - 0) (cap - 0)) (l.take k) := by
  obtain ⟨A', cap', e, hc, hs⟩ := h
  cases e
  have := hs.sub (l := 0) (h := k) (by omega) hk hc
  rw [List.drop_zero, Nat.sub_zero] at this
  refine ⟨_, _, by rw [List.length_take, Nat.min_eq_left hk]; rfl, by rw [List.length_take]; omega, this⟩
theorem Ss.drop {R : Rd} {A : Option Addr} {cap : Nat} {l : List Str} (h : Ss R (.slice A l.length cap) l) {k : Nat} (hk : k ≤ l.length) : Ss R (.slice (sliceBase A cap k 1) (l.length - k) (cap - k)) (l.drop k) := by
  obtain ⟨A', cap', e, hc, hs⟩ := h
  cases e
  have := hs.sub (l := k) (h := l.length) hk (Nat.le_refl _) hc
  rw [List.take_of_length_le (by rw [List.length_drop]; exact Nat.le_refl _)] at this
  refine ⟨_, _, by rw [List.length_drop], by rw [List.length_drop]; omega, this⟩

/-- Texts that are not too long. -/
def Small (l : List Str) : Prop := l.length ≤ 1000000000 ∧ ∀ s ∈ l, s.length ≤ 1000000
theorem Small.take {l : List Str} (h : Small l) (k : Nat) : Small (l.take k) := ⟨by rw [List.length_take]; have := h.1; omega, fun s hs => h.2 s (List.mem_of_mem_take hs)⟩
theorem Small.drop {l : List Str} (h : Small l) (k : Nat) : Small (l.drop k) := ⟨by rw [List.length_drop]; have := h.1; omega, fun s hs => h.2 s (List.mem_of_mem_drop hs)⟩
theorem Small.root {l : List Str} (h : Small l) : (rootOf l).length ≤ 1000000 := by
  by_cases h1 : l.length = 1
  · rw [rootOf_one h1, List.getD_eq_getElem?_getD, List.getElem?_eq_getElem (by omega)]
    exact h.2 _ (List.getElem_mem _)
  · rw [rootOf_length h1]; omega
theorem Small.get {l : List Str} (h : Small l) (i : Nat) : (l.getD i []).length ≤ 1000000 := by
  rw [List.getD_eq_getElem?_getD]
  cases hi : l[i]? with
  | none => simp
  | some s => exact h.2 s (List.mem_of_getElem? hi)

theorem Root_ok (R : Rd) (hG : ShaG R) : ∀ (n : Nat) (l : List Str) (v0 : Value), l.length = n → Small l → Ss R v0 l → Fn Tryd.prog 36 [v0] [] R (fun v h => v = .string ⟨⟨rootOf l⟩⟩ ∧ h = []) := by
  intro n
  induction n using Nat.strongRecOn generalizing R with
  | _ n ih =>
  intro l v0 hn hsm hs
  obtain ⟨A, cap, rfl, hc, hsr⟩ := hs
  have hs : Ss R (.slice A l.length cap) l := ⟨A, cap, rfl, hc, hsr⟩
  have hlen := hsm.1
  refine fn_of_vc mixed tabOk Tryd.func36 rfl (by kernel_rfl) (Nat.le_of_ble_eq_true rfl) ?_
  refine ⟨fun hb => ?_, fun hb => ?_⟩
  · replace hb := of_decide_eq_true hb
    have h0 : l.length = 0 := by omega
    clear hb
    refine ⟨[], _, Sum_ok _ (hG.rh _) [] .none 0 (by decide) (by decide) (BsR.nilv _), ?_⟩
    rintro _ _ ⟨rfl, rfl⟩
    refine ⟨_, Ent.refl _, ?_, rfl⟩
    rw [rootOf_zero h0]; rfl
  replace hb := of_decide_eq_false hb
  have h0 : ¬ l.length = 0 := by omega
  clear hb
  refine ⟨fun hb => ?_, fun hb => ?_⟩
  · replace hb := of_decide_eq_true hb
    have h1 : l.length = 1 := by omega
    clear hb
    obtain ⟨a, ha, hr⟩ := hsr.one (i := 0) (by omega)
    refine ⟨by decide, by omega, a, ha, _, .inl hr, ?_⟩
    refine ⟨_, Ent.refl _, ?_, rfl⟩
    rw [rootOf_one h1]; rfl
  replace hb := of_decide_eq_false hb
  have h2 : 2 ≤ l.length := by omega
  clear hb
  have hk := splitN_lt h2
  have hk0 := splitN_pos l.length
  refine ⟨[], _, split_ok _ l.length h2 (by omega), ?_⟩
  rintro _ _ ⟨rfl, rfl⟩
  refine ⟨[], (.q 0 (.q 1 (.q 2 (.q 4 (.q 5 (.q 6 (.one 3 (.one 7 (.one 8 (.q 9 .nil)))))))))), by kernel_rfl, ?_⟩
  refine ⟨0, splitN l.length, rfl, rfl, by omega, by omega, ?_⟩
  refine ⟨splitN l.length, l.length, rfl, rfl, by omega, by omega, ?_⟩
  refine ⟨[], _, ih (splitN l.length) (by omega) _ ((hG.rh _).rh _) (l.take (splitN l.length)) _ (by rw [List.length_take]; omega) (hsm.take _) (((hs.take (by omega)).rh _).rh _), ?_⟩
  rintro _ _ ⟨rfl, rfl⟩
  refine ⟨[], _, ih (l.length - splitN l.length) (by omega) _ ((hG.rh _).rh _) (l.drop (splitN l.length)) _ (by rw [List.length_drop]) (hsm.drop _) (((hs.drop (by omega)).rh _).rh _), ?_⟩
  rintro _ _ ⟨rfl, rfl⟩
  refine ⟨[], _, Node_ok _ ((hG.rh _).rh _) _ _ (by have := (hsm.take (splitN l.length)).root; omega) (by have := (hsm.drop (splitN l.length)).root; omega), ?_⟩
  rintro _ _ ⟨rfl, rfl⟩
  refine ⟨_, Ent.refl _, ?_, rfl⟩
  rw [rootOf_two h2]; rfl

end Go.Proofs.YtgnmbgbiajgpeaaDoor

namespace Go.Proofs.YtgnmbgbiajgpeaaDoor
open Go Go.RowKit
set_option linter.unusedVariables false

theorem isSum_ok (R : Rd) (s : Str) : Fn Tryd.prog 83 [.string ⟨⟨s⟩⟩] [] R (fun v h => v = .bool (decide ((s.length : Int) = 32)) ∧ h = []) := by
  refine fn_of_vc mixed tabOk Tryd.func83 rfl (by kernel_rfl) (Nat.le_of_ble_eq_true rfl) ?_
  exact ⟨_, Ent.refl _, rfl, rfl⟩

theorem sumsB_take {l : List Str} {i : Nat} (h : i < l.length) : sumsB (l.take (i + 1)) = (sumsB (l.take i) && ((l.getD i []).length == 32)) := by
  rw [List.take_add_one, List.getD_eq_getElem?_getD, List.getElem?_eq_getElem h]
  simp only [sumsB, List.all_append, Option.toList_some, List.all_cons, List.all_nil, Bool.and_true, Option.getD_some]
theorem sumsB_false {l : List Str} {i : Nat} (h : i < l.length) (hf : ¬ (l.getD i []).length = 32) : sumsB l = false := by
  rw [List.getD_eq_getElem?_getD, List.getElem?_eq_getElem h] at hf
  unfold sumsB
  rw [List.all_eq_false]
  exact ⟨l[i], List.getElem_mem _, by simpa using hf⟩

theorem areSums_ok (R : Rd) (l : List Str) (v0 : Value) (hl : l.length ≤ 9223372036854775807) (hs : SsR R v0 l) : Fn Tryd.prog 84 [v0] [] R (fun v h => v = .bool (sumsB l) ∧ h = []) := by
  obtain ⟨A, cap, rfl⟩ := hs.form
  refine fn_of_vc mixed tabOk Tryd.func84 rfl (by kernel_rfl) (Nat.le_of_ble_eq_true rfl) ?_
  refine ⟨[none, none, some 2, none, some 4, none, none, some 7, some 8, some 9, some 10, some 11, some 12, some 13, some 14], [7], Nat, fun i => i ≤ l.length ∧ sumsB (l.take i) = true, fun i => [.int .i64 i], fun _ => [], fun i => l.length - i, 0, ⟨Nat.zero_le _, rfl⟩, ⟨rfl, trivial⟩, Ent.refl _, ?_⟩
  rintro i ⟨hi, hsi⟩ js
  refine ⟨fun hb => ?_, fun hb => ?_⟩
  · replace hb := of_decide_eq_true hb
    have hil : i < l.length := by omega
    clear hb
    obtain ⟨a, ha, hr⟩ := hs.one hil
    refine ⟨by omega, by omega, a, ha, _, .inl hr, ?_⟩
    refine ⟨[], _, isSum_ok _ _, ?_⟩
    rintro _ _ ⟨rfl, rfl⟩
    refine ⟨fun hb => ?_, fun hb => ?_⟩
    · replace hb := of_decide_eq_false (Bool.not_eq_true' _ ▸ hb)
      replace hb : ¬ ((l.getD i []).length : Int) = 32 := hb
      refine ⟨_, Ent.refl _, ?_, rfl⟩
      rw [sumsB_false hil (by omega)]; rfl
    · replace hb := of_decide_eq_true (Bool.not_eq_false' _ ▸ hb)
      (intro z hz; obtain rfl : z = ((i + 1 : Nat) : Int) := (by first | (rw [IntKind.wrap_i64] at hz; omega) | (rw [IntKind.wrap_u64] at hz; omega) | omega); clear hz)
      refine ⟨rfl, i + 1, ⟨hil, ?_⟩, by show l.length - (i + 1) < l.length - i; omega, ⟨rfl, trivial⟩, Ent.refl _, rfl⟩
      replace hb : ((l.getD i []).length : Int) = 32 := hb
      rw [sumsB_take hil, hsi, Bool.true_and, beq_iff_eq]
      omega
  · replace hb := of_decide_eq_false hb
    obtain rfl : i = l.length := by omega
    refine ⟨_, Ent.refl _, ?_, rfl⟩
    rw [List.take_length] at hsi
    rw [hsi]; rfl

theorem upR_len {leaf : Str} (hl : leaf.length ≤ 1000000) : ∀ (rp : List Str) (i n : Nat), (upR leaf rp i n).1.length ≤ 1000000
  | [], i, n => by
    unfold upR
    split
    · exact hl
    · simp
  | last :: rest, i, n => by
    unfold upR
    split
    · exact hl
    · split
      · show (nodeOf _ _).length ≤ _; rw [nodeOf_length]; omega
      · show (nodeOf _ _).length ≤ _; rw [nodeOf_length]; omega

theorem upR_nil1 (leaf : Str) (i : Nat) : upR leaf [] i 1 = (leaf, true) := by simp [upR]
theorem upR_niln (leaf : Str) (i : Nat) {n : Nat} (h : n ≠ 1) : upR leaf [] i n = ([], false) := by simp [upR, h]
theorem upR_one (leaf last : Str) (rest : List Str) (i : Nat) : upR leaf (last :: rest) i 1 = (leaf, false) := by simp [upR]
theorem upR_lo (leaf last : Str) (rest : List Str) {i n : Nat} (h : n ≠ 1) (hi : i < splitN n) : upR leaf (last :: rest) i n = (nodeOf (upR leaf rest i (splitN n)).1 last, (upR leaf rest i (splitN n)).2) := by
  rw [upR, if_neg h, if_pos hi]
theorem upR_hi (leaf last : Str) (rest : List Str) {i n : Nat} (h : n ≠ 1) (hi : ¬ i < splitN n) : upR leaf (last :: rest) i n = (nodeOf last (upR leaf rest (i - splitN n) (n - splitN n)).1, (upR leaf rest (i - splitN n) (n - splitN n)).2) := by
  rw [upR, if_neg h, if_neg hi]

theorem rev_take {last : Str} {rest : List Str} : (last :: rest).reverse.take rest.length = rest.reverse := by
  rw [List.reverse_cons, List.take_append_of_le_length (by rw [List.length_reverse]; exact Nat.le_refl _), List.take_of_length_le (by rw [List.length_reverse]; exact Nat.le_refl _)]
theorem rev_get {last : Str} {rest : List Str} : (last :: rest).reverse.getD rest.length [] = last := by
  rw [List.getD_eq_getElem?_getD, List.reverse_cons, List.getElem?_append_right (by rw [List.length_reverse]; exact Nat.le_refl _), List.length_reverse, Nat.sub_self]; rfl
theorem Small.rest {last : Str} {rest : List Str} (h : Small (last :: rest).reverse) : Small rest.reverse := by
  have := h.take rest.length
  rwa [rev_take] at this
theorem Small.last {last : Str} {rest : List Str} (h : Small (last :: rest).reverse) : last.length ≤ 1000000 := h.2 last (by simp)

set_option maxRecDepth 100000 in
theorem climb_ok (leaf : Str) (hleaf : leaf.length ≤ 1000000) : ∀ (rp : List Str) (R : Rd) (hG : ShaG R) (i n : Nat) (v3 : Value), i < n → n ≤ 9223372036854775807 → Small rp.reverse → Ss R v3 rp.reverse →
    Fn Tryd.prog 85 [.string ⟨⟨leaf⟩⟩, .int .i64 i, .int .i64 n, v3] [] R (fun v h => v = .tuple ⟨[.string ⟨⟨(upR leaf rp i n).1⟩⟩, .bool (upR leaf rp i n).2]⟩ ∧ h = []) := by
  intro rp
  induction rp with
  | nil =>
    intro R hG i n v3 hi hn hsm hs
    obtain ⟨A, cap, rfl, hc, hsr⟩ := hs
    refine fn_of_vc mixed tabOk Tryd.func85 rfl (by kernel_rfl) (Nat.le_of_ble_eq_true rfl) ?_
    refine ⟨fun hb => ?_, fun hb => ?_⟩
    · replace hb := of_decide_eq_true hb
      obtain rfl : n = 1 := by omega
      refine ⟨_, Ent.refl _, ?_, rfl⟩
      rw [upR_nil1]; rfl
    · replace hb := of_decide_eq_false hb
      have hn1 : n ≠ 1 := by omega
      clear hb
      refine ⟨fun _ => ?_, fun h => (by cases h)⟩
      refine ⟨_, Ent.refl _, ?_, rfl⟩
      rw [upR_niln _ _ hn1]; rfl
  | cons last rest ih =>
    intro R hG i n v3 hi hn hsm hs
    obtain ⟨A, cap, rfl, hc, hsr⟩ := hs
    have hs : Ss R (.slice A (last :: rest).reverse.length cap) (last :: rest).reverse := ⟨A, cap, rfl, hc, hsr⟩
    have hlr : (last :: rest).reverse.length = rest.length + 1 := by rw [List.length_reverse, List.length_cons]
    have hbig := hsm.1
    refine fn_of_vc mixed tabOk Tryd.func85 rfl (by kernel_rfl) (Nat.le_of_ble_eq_true rfl) ?_
    refine ⟨fun hb => ?_, fun hb => ?_⟩
    · replace hb := of_decide_eq_true hb
      obtain rfl : n = 1 := by omega
      refine ⟨_, Ent.refl _, ?_, rfl⟩
      rw [upR_one]
      show Value.tuple ⟨[_, .bool (decide _)]⟩ = _
      rw [decide_eq_false (by omega)]
    · replace hb := of_decide_eq_false hb
      have hn1 : n ≠ 1 := by omega
      have h2 : 2 ≤ n := by omega
      clear hb
      refine ⟨fun h => (by have := of_decide_eq_true h; omega), fun _ => ?_⟩
      have hk := splitN_lt h2
      have hk0 := splitN_pos n
      obtain ⟨a, ha, hr⟩ := hsr.one (i := rest.length) (by omega)
      rw [rev_get] at hr
      have hbel := hs.take (k := rest.length) (by omega)
      rw [rev_take] at hbel
      refine ⟨[], lexT 0 13, by kernel_rfl, ?_⟩
      (intro z hz; obtain rfl : z = ((rest.length : Nat) : Int) := (by first | (rw [IntKind.wrap_i64] at hz; omega) | (rw [IntKind.wrap_u64] at hz; omega) | omega); clear hz)
      refine ⟨0, rest.length, rfl, rfl, by omega, by omega, ?_⟩
      (intro z hz; obtain rfl : z = ((rest.length : Nat) : Int) := (by first | (rw [IntKind.wrap_i64] at hz; omega) | (rw [IntKind.wrap_u64] at hz; omega) | omega); clear hz)
      refine ⟨by omega, by omega, a, ha, _, .inl hr, ?_⟩
      refine ⟨[], _, split_ok _ n h2 hn, ?_⟩
      rintro _ _ ⟨rfl, rfl⟩
      refine ⟨fun hb => ?_, fun hb => ?_⟩
      · replace hb := of_decide_eq_true hb
        have hik : i < splitN n := by omega
        clear hb
        refine ⟨[], _, ih _ (hG.rh _) i (splitN n) _ hik (by omega) hsm.rest (hbel.rh _), ?_⟩
        rintro _ _ ⟨rfl, rfl⟩
        refine ⟨[], _, Node_ok _ (hG.rh _) _ _ (by have := upR_len hleaf rest i (splitN n); omega) (by have := hsm.last; omega), ?_⟩
        rintro _ _ ⟨rfl, rfl⟩
        refine ⟨_, Ent.refl _, ?_, rfl⟩
        rw [upR_lo _ _ _ hn1 hik]; rfl
      · replace hb := of_decide_eq_false hb
        have hik : ¬ i < splitN n := by omega
        clear hb
        (intro z hz; obtain rfl : z = ((i - splitN n : Nat) : Int) := (by first | (rw [IntKind.wrap_i64] at hz; omega) | (rw [IntKind.wrap_u64] at hz; omega) | omega); clear hz)
        (intro z hz; obtain rfl : z = ((n - splitN n : Nat) : Int) := (by first | (rw [IntKind.wrap_i64] at hz; omega) | (rw [IntKind.wrap_u64] at hz; omega) | omega); clear hz)
        refine ⟨[], _, ih _ (hG.rh _) (i - splitN n) (n - splitN n) _ (by omega) (by omega) hsm.rest (hbel.rh _), ?_⟩
        rintro _ _ ⟨rfl, rfl⟩
        refine ⟨[], _, Node_ok _ (hG.rh _) _ _ (by have := hsm.last; omega) (by have := upR_len hleaf rest (i - splitN n) (n - splitN n); omega), ?_⟩
        rintro _ _ ⟨rfl, rfl⟩
        refine ⟨_, Ent.refl _, ?_, rfl⟩
        rw [upR_hi _ _ _ hn1 hik]; rfl

end Go.Proofs.YtgnmbgbiajgpeaaDoor

namespace Go.Proofs.YtgnmbgbiajgpeaaDoor
open Go Go.RowKit
set_option linter.unusedVariables false

theorem verifyB_neg {leaf root : Str} {i n : Int} {path : List Str} (h : i < 0) : verifyB leaf i n path root = false := by
  have : decide (0 ≤ i) = false := decide_eq_false (by omega)
  simp [verifyB, this]
theorem verifyB_ge {leaf root : Str} {i n : Int} {path : List Str} (h : n ≤ i) : verifyB leaf i n path root = false := by
  have : decide (i < n) = false := decide_eq_false (by omega)
  simp [verifyB, this]
theorem verifyB_leaf {leaf root : Str} {i n : Int} {path : List Str} (h : ¬ leaf.length = 32) : verifyB leaf i n path root = false := by simp [verifyB, h]
theorem verifyB_root {leaf root : Str} {i n : Int} {path : List Str} (h : ¬ root.length = 32) : verifyB leaf i n path root = false := by simp [verifyB, h]
theorem verifyB_path {leaf root : Str} {i n : Int} {path : List Str} (h : sumsB path = false) : verifyB leaf i n path root = false := by simp [verifyB, h]
theorem verifyB_up {leaf root : Str} {i n : Nat} {path : List Str} (h : i < n) (h1 : leaf.length = 32) (h2 : root.length = 32) (h3 : sumsB path = true) :
    verifyB leaf i n path root = ((upR leaf path.reverse i n).2 && decide ((upR leaf path.reverse i n).1 = root)) := by
  have e1 : decide ((0 : Int) ≤ i) = true := decide_eq_true (by omega)
  have e2 : decide ((i : Int) < n) = true := decide_eq_true (by omega)
  have e3 : ((upR leaf path.reverse i n).1 == root) = decide ((upR leaf path.reverse i n).1 = root) := by
    by_cases h : (upR leaf path.reverse i n).1 = root <;> simp [h]
  simp only [verifyB, e1, e2, h1, h2, h3, upOf, Int.toNat_natCast, e3]
  simp

set_option maxRecDepth 100000 in
set_option maxHeartbeats 1000000 in
theorem Verify_okL (R : Rd) (hG : ShaG R) (leaf root : Str) (i n : Int) (path : List Str) (v3 : Value) (hi : -9223372036854775808 ≤ i) (hn : n ≤ 9223372036854775807) (hleaf : leaf.length ≤ 1000000) (hsm : path.length ≤ 1000000000) (hs : Ss R v3 path) :
    Fn Tryd.prog 71 [.string ⟨⟨leaf⟩⟩, .int .i64 i, .int .i64 n, v3, .string ⟨⟨root⟩⟩] [] R (fun v h => v = .bool (verifyB leaf i n path root) ∧ h = []) := by
  have hs' := hs
  obtain ⟨A, cap, rfl, hc, hsr⟩ := hs
  refine fn_of_vc mixed tabOk Tryd.func71 rfl (by kernel_rfl) (Nat.le_of_ble_eq_true rfl) ?_
  by_cases c1 : i < 0
  · repeat (first | (refine ⟨fun h => ?_, fun h => ?_⟩; rotate_left 1; (focus (exfalso; (first | (with_reducible (cases h; done)) | (revert h; simp; done) | (revert h; simp; omega) | (revert h; simp [*]; done)))); clear h) | (refine ⟨fun h => ?_, fun h => ?_⟩; (focus (exfalso; (first | (with_reducible (cases h; done)) | (revert h; simp; done) | (revert h; simp; omega) | (revert h; simp [*]; done)))); clear h))
    refine ⟨_, Ent.refl _, ?_, rfl⟩
    rw [verifyB_neg c1]; rfl
  by_cases c2 : n ≤ i
  · repeat (first | (refine ⟨fun h => ?_, fun h => ?_⟩; rotate_left 1; (focus (exfalso; (first | (with_reducible (cases h; done)) | (revert h; simp; done) | (revert h; simp; omega) | (revert h; simp [*]; done)))); clear h) | (refine ⟨fun h => ?_, fun h => ?_⟩; (focus (exfalso; (first | (with_reducible (cases h; done)) | (revert h; simp; done) | (revert h; simp; omega) | (revert h; simp [*]; done)))); clear h))
    refine ⟨_, Ent.refl _, ?_, rfl⟩
    rw [verifyB_ge c2]; rfl
  repeat (first | (refine ⟨fun h => ?_, fun h => ?_⟩; rotate_left 1; (focus (exfalso; (first | (with_reducible (cases h; done)) | (revert h; simp; done) | (revert h; simp; omega) | (revert h; simp [*]; done)))); clear h) | (refine ⟨fun h => ?_, fun h => ?_⟩; (focus (exfalso; (first | (with_reducible (cases h; done)) | (revert h; simp; done) | (revert h; simp; omega) | (revert h; simp [*]; done)))); clear h))
  refine ⟨[], _, isSum_ok _ _, ?_⟩
  rintro _ _ ⟨rfl, rfl⟩
  by_cases c3 : (leaf.length : Int) = 32
  case neg =>
    repeat (first | (refine ⟨fun h => ?_, fun h => ?_⟩; rotate_left 1; (focus (exfalso; (first | (with_reducible (cases h; done)) | (revert h; simp; done) | (revert h; simp; omega) | (revert h; simp [*]; done)))); clear h) | (refine ⟨fun h => ?_, fun h => ?_⟩; (focus (exfalso; (first | (with_reducible (cases h; done)) | (revert h; simp; done) | (revert h; simp; omega) | (revert h; simp [*]; done)))); clear h))
    refine ⟨_, Ent.refl _, ?_, rfl⟩
    rw [verifyB_leaf (by omega)]; rfl
  repeat (first | (refine ⟨fun h => ?_, fun h => ?_⟩; rotate_left 1; (focus (exfalso; (first | (with_reducible (cases h; done)) | (revert h; simp; done) | (revert h; simp; omega) | (revert h; simp [*]; done)))); clear h) | (refine ⟨fun h => ?_, fun h => ?_⟩; (focus (exfalso; (first | (with_reducible (cases h; done)) | (revert h; simp; done) | (revert h; simp; omega) | (revert h; simp [*]; done)))); clear h))
  refine ⟨[], _, isSum_ok _ _, ?_⟩
  rintro _ _ ⟨rfl, rfl⟩
  by_cases c4 : (root.length : Int) = 32
  case neg =>
    repeat (first | (refine ⟨fun h => ?_, fun h => ?_⟩; rotate_left 1; (focus (exfalso; (first | (with_reducible (cases h; done)) | (revert h; simp; done) | (revert h; simp; omega) | (revert h; simp [*]; done)))); clear h) | (refine ⟨fun h => ?_, fun h => ?_⟩; (focus (exfalso; (first | (with_reducible (cases h; done)) | (revert h; simp; done) | (revert h; simp; omega) | (revert h; simp [*]; done)))); clear h))
    refine ⟨_, Ent.refl _, ?_, rfl⟩
    rw [verifyB_root (by omega)]; rfl
  repeat (first | (refine ⟨fun h => ?_, fun h => ?_⟩; rotate_left 1; (focus (exfalso; (first | (with_reducible (cases h; done)) | (revert h; simp; done) | (revert h; simp; omega) | (revert h; simp [*]; done)))); clear h) | (refine ⟨fun h => ?_, fun h => ?_⟩; (focus (exfalso; (first | (with_reducible (cases h; done)) | (revert h; simp; done) | (revert h; simp; omega) | (revert h; simp [*]; done)))); clear h))
  refine ⟨[], _, areSums_ok _ path _ (by omega) (hsr.rh _), ?_⟩
  rintro _ _ ⟨rfl, rfl⟩
  by_cases c5 : sumsB path = true
  case neg =>
    have c5' : sumsB path = false := by simpa using c5
    repeat (first | (refine ⟨fun h => ?_, fun h => ?_⟩; rotate_left 1; (focus (exfalso; (first | (with_reducible (cases h; done)) | (revert h; simp; done) | (revert h; simp; omega) | (revert h; simp [*]; done)))); clear h) | (refine ⟨fun h => ?_, fun h => ?_⟩; (focus (exfalso; (first | (with_reducible (cases h; done)) | (revert h; simp; done) | (revert h; simp; omega) | (revert h; simp [*]; done)))); clear h))
    refine ⟨_, Ent.refl _, ?_, rfl⟩
    rw [verifyB_path c5']; rfl
  repeat (first | (refine ⟨fun h => ?_, fun h => ?_⟩; rotate_left 1; (focus (exfalso; (first | (with_reducible (cases h; done)) | (revert h; simp; done) | (revert h; simp; omega) | (revert h; simp [*]; done)))); clear h) | (refine ⟨fun h => ?_, fun h => ?_⟩; (focus (exfalso; (first | (with_reducible (cases h; done)) | (revert h; simp; done) | (revert h; simp; omega) | (revert h; simp [*]; done)))); clear h))
  have hsm : Small path := ⟨hsm, fun s hs => by simp only [sumsB, List.all_eq_true, beq_iff_eq] at c5; have := c5 s hs; omega⟩
  obtain ⟨i, rfl⟩ := Int.eq_ofNat_of_zero_le (show 0 ≤ i by omega)
  obtain ⟨n, rfl⟩ := Int.eq_ofNat_of_zero_le (show 0 ≤ n by omega)
  refine ⟨[], _, climb_ok leaf hleaf path.reverse _ (hG.rh _) i n _ (by omega) (by omega) (by rw [List.reverse_reverse]; exact hsm) (by rw [List.reverse_reverse]; exact hs'.rh _), ?_⟩
  rintro _ _ ⟨rfl, rfl⟩
  cases c6 : (upR leaf path.reverse i n).2
  · repeat (first | (refine ⟨fun h => ?_, fun h => ?_⟩; rotate_left 1; (focus (exfalso; (first | (with_reducible (cases h; done)) | (revert h; simp; done) | (revert h; simp; omega) | (revert h; simp [*]; done)))); clear h) | (refine ⟨fun h => ?_, fun h => ?_⟩; (focus (exfalso; (first | (with_reducible (cases h; done)) | (revert h; simp; done) | (revert h; simp; omega) | (revert h; simp [*]; done)))); clear h))
    refine ⟨_, Ent.refl _, ?_, rfl⟩
    rw [verifyB_up (by omega) (by omega) (by omega) c5, c6]; rfl
  · repeat (first | (refine ⟨fun h => ?_, fun h => ?_⟩; rotate_left 1; (focus (exfalso; (first | (with_reducible (cases h; done)) | (revert h; simp; done) | (revert h; simp; omega) | (revert h; simp [*]; done)))); clear h) | (refine ⟨fun h => ?_, fun h => ?_⟩; (focus (exfalso; (first | (with_reducible (cases h; done)) | (revert h; simp; done) | (revert h; simp; omega) | (revert h; simp [*]; done)))); clear h))
    refine ⟨_, Ent.refl _, ?_, rfl⟩
    rw [verifyB_up (by omega) (by omega) (by omega) c5, c6, Bool.true_and]; rfl
theorem Verify_ok (R : Rd) (hG : ShaG R) (leaf root : Str) (i n : Int) (path : List Str) (v3 : Value) (hi : -9223372036854775808 ≤ i) (hn : n ≤ 9223372036854775807) (hleaf : leaf.length ≤ 1000000) (hsm : Small path) (hs : Ss R v3 path) :
    Fn Tryd.prog 71 [.string ⟨⟨leaf⟩⟩, .int .i64 i, .int .i64 n, v3, .string ⟨⟨root⟩⟩] [] R (fun v h => v = .bool (verifyB leaf i n path root) ∧ h = []) := Verify_okL R hG leaf root i n path v3 hi hn hleaf hsm.1 hs

theorem sumsB_two {a b : Str} : sumsB [a, b] = (decide ((a.length : Int) = 32) && decide ((b.length : Int) = 32)) := by
  have e : ∀ s : Str, (s.length == 32) = decide ((s.length : Int) = 32) := fun s => by
    by_cases h : s.length = 32
    · simp [h]
    · have : ¬ (s.length : Int) = 32 := by omega
      simp [h, this]
  simp only [sumsB, List.all_cons, List.all_nil, Bool.and_true, e]

/-- Texts of the call's own, in a new slice. -/
def OwnT (v : Value) (l : List Str) (h : Hp) : Prop :=
  ∃ A k cap xs, v = .slice A k cap ∧ h = [.row A k cap 9 1 xs (0, 0)] ∧ k = l.length ∧ xs = SV l ∧ grow k A
/-- What a function value answers. -/
def pathG (F : Nat → Nat → Str) (start n i : Nat) : List Str :=
  if h : n ≤ 1 then [] else
    if i < splitN n then F (start + splitN n) (n - splitN n) :: pathG F start (splitN n) i
    else F start (splitN n) :: pathG F (start + splitN n) (n - splitN n) (i - splitN n)
termination_by n
decreasing_by
  · exact splitN_lt (by omega)
  · have := splitN_pos n; omega
theorem pathG_one {F : Nat → Nat → Str} {start n i : Nat} (h : n ≤ 1) : pathG F start n i = [] := by rw [pathG, dif_pos h]
theorem pathG_lo {F : Nat → Nat → Str} {start n i : Nat} (h : 2 ≤ n) (hi : i < splitN n) : pathG F start n i = F (start + splitN n) (n - splitN n) :: pathG F start (splitN n) i := by
  rw [pathG, dif_neg (by omega), if_pos hi]
theorem pathG_hi {F : Nat → Nat → Str} {start n i : Nat} (h : 2 ≤ n) (hi : ¬ i < splitN n) : pathG F start n i = F start (splitN n) :: pathG F (start + splitN n) (n - splitN n) (i - splitN n) := by
  rw [pathG, dif_neg (by omega), if_neg hi]
/-- The roots of parts of a list. -/
theorem pathG_root (l : List Str) : ∀ (n start i : Nat), start + n ≤ l.length → pathG (fun s m => rootOf ((l.drop s).take m)) start n i = pathR ((l.drop start).take n) i := by
  intro n
  induction n using Nat.strongRecOn with
  | _ n ih =>
  intro start i hle
  have hlen : ((l.drop start).take n).length = n := by rw [List.length_take, List.length_drop]; omega
  by_cases h : n ≤ 1
  · rw [pathG_one h, pathR_one (by omega)]
  · have h2 : 2 ≤ n := by omega
    have hk := splitN_lt h2
    have hk0 := splitN_pos n
    have e1 : ((l.drop start).take n).take (splitN n) = (l.drop start).take (splitN n) := by rw [List.take_take, Nat.min_eq_left (by omega)]
    have e2 : ((l.drop start).take n).drop (splitN n) = (l.drop (start + splitN n)).take (n - splitN n) := by rw [List.drop_take, List.drop_drop]
    by_cases hi : i < splitN n
    · rw [pathG_lo h2 hi, pathR_lo (by omega) (by rw [hlen]; exact hi), hlen, e1, e2, ih _ hk _ _ (by omega)]
    · rw [pathG_hi h2 hi, pathR_hi (by omega) (by rw [hlen]; exact hi), hlen, e1, e2, ih _ (by omega) _ _ (by omega)]

theorem SV_snoc (l : List Str) (s : Str) : SV l ++ [.string ⟨⟨s⟩⟩] = SV (l ++ [s]) := by simp [SV]
theorem pathG_le (F : Nat → Nat → Str) : ∀ (n start i : Nat), (pathG F start n i).length ≤ n := by
  intro n
  induction n using Nat.strongRecOn with
  | _ n ih =>
  intro start i
  by_cases h : n ≤ 1
  · rw [pathG_one h]; simp
  · have h2 : 2 ≤ n := by omega
    have hk := splitN_lt h2
    have hk0 := splitN_pos n
    by_cases hi : i < splitN n
    · rw [pathG_lo h2 hi, List.length_cons]; have := ih _ hk start i; omega
    · rw [pathG_hi h2 hi, List.length_cons]; have := ih (n - splitN n) (by omega) (start + splitN n) (i - splitN n); omega

set_option maxRecDepth 100000 in
set_option maxHeartbeats 1000000 in
theorem pathC_ok (fr : FuncId) (c : Value) (F : Nat → Nat → Str) (N : Nat) (hN : N ≤ 1000000000) : ∀ (n : Nat) (R : Rd) (start i : Nat),
    (∀ R' : Rd, (∀ a v, R a v → R' a v) → ∀ s m, s + m ≤ N → Fn Tryd.prog fr [.int .i64 s, .int .i64 m, c] [] R' (fun v h => v = .string ⟨⟨F s m⟩⟩ ∧ h = [])) →
    i < n → start + n ≤ N →
    Fn Tryd.prog 88 [.func (.func fr) #[] #[c], .int .i64 start, .int .i64 i, .int .i64 n] [] R (fun v h => OwnT v (pathG F start n i).reverse h) := by
  have hML := maxLen_eq
  intro n
  induction n using Nat.strongRecOn with
  | _ n ih =>
  intro R start i hF hi hle
  refine fn_of_vc mixed tabOk Tryd.func88 rfl (by kernel_rfl) (Nat.le_of_ble_eq_true rfl) ?_
  refine ⟨fun hb => ?_, fun hb => ?_⟩
  · replace hb := of_decide_eq_true hb
    obtain rfl : n = 1 := by omega
    refine ⟨_, Ent.nilrow [] 9 1, .none, 0, 0, [], rfl, rfl, ?_, ?_, .inl rfl⟩
    · rw [pathG_one (Nat.le_refl _)]; rfl
    · rw [pathG_one (Nat.le_refl _)]; rfl
  replace hb := of_decide_eq_false hb
  have h2 : 2 ≤ n := by omega
  clear hb
  have hk := splitN_lt h2
  have hk0 := splitN_pos n
  refine ⟨[], _, split_ok _ n h2 (by omega), ?_⟩
  rintro _ _ ⟨rfl, rfl⟩
  refine ⟨fun hb => ?_, fun hb => ?_⟩
  · replace hb := of_decide_eq_true hb
    have hik : i < splitN n := by omega
    clear hb
    refine ⟨[], _, ih (splitN n) hk _ start i (fun R' h => hF R' fun a v hv => h a v (.inl hv)) hik (by omega), ?_⟩
    rintro _ _ ⟨A, k, cap, xs, rfl, rfl, hkl, hxs, hg⟩
    have hpl := pathG_le F (splitN n) start i
    rw [List.length_reverse] at hkl
    (intro z hz; obtain rfl : z = ((start + splitN n : Nat) : Int) := (by first | (rw [IntKind.wrap_i64] at hz; omega) | (rw [IntKind.wrap_u64] at hz; omega) | omega); clear hz)
    (intro z hz; obtain rfl : z = ((n - splitN n : Nat) : Int) := (by first | (rw [IntKind.wrap_i64] at hz; omega) | (rw [IntKind.wrap_u64] at hz; omega) | omega); clear hz)
    refine ⟨[], _, hF _ (fun a v hv => .inl hv) (start + splitN n) (n - splitN n) (by omega), ?_⟩
    rintro _ _ ⟨rfl, rfl⟩
    refine ⟨rfl, fun g => ?_⟩
    refine ⟨[.string ⟨⟨F (start + splitN n) (n - splitN n)⟩⟩], rfl, rdRow 1 rfl, rfl, by show (_ + _) * 16 ≤ _; omega, by omega, .inr ⟨0, rfl, rfl, rfl, rfl, rfl, rfl, fun A' cap' hg' => ?_⟩⟩
    refine ⟨_, Ent.drop [_] [_], A', _, cap', _, rfl, rfl, ?_, ?_, hg'⟩
    · rw [pathG_lo h2 hik, List.length_reverse, List.length_cons]; omega
    · rw [pathG_lo h2 hik, List.reverse_cons, ← SV_snoc, hxs]
  · replace hb := of_decide_eq_false hb
    have hik : ¬ i < splitN n := by omega
    clear hb
    (intro z hz; obtain rfl : z = ((start + splitN n : Nat) : Int) := (by first | (rw [IntKind.wrap_i64] at hz; omega) | (rw [IntKind.wrap_u64] at hz; omega) | omega); clear hz)
    (intro z hz; obtain rfl : z = ((i - splitN n : Nat) : Int) := (by first | (rw [IntKind.wrap_i64] at hz; omega) | (rw [IntKind.wrap_u64] at hz; omega) | omega); clear hz)
    (intro z hz; obtain rfl : z = ((n - splitN n : Nat) : Int) := (by first | (rw [IntKind.wrap_i64] at hz; omega) | (rw [IntKind.wrap_u64] at hz; omega) | omega); clear hz)
    refine ⟨[], _, ih (n - splitN n) (by omega) _ (start + splitN n) (i - splitN n) (fun R' h => hF R' fun a v hv => h a v (.inl hv)) (by omega) (by omega), ?_⟩
    rintro _ _ ⟨A, k, cap, xs, rfl, rfl, hkl, hxs, hg⟩
    have hpl := pathG_le F (n - splitN n) (start + splitN n) (i - splitN n)
    rw [List.length_reverse] at hkl
    refine ⟨[], _, hF _ (fun a v hv => .inl hv) start (splitN n) (by omega), ?_⟩
    rintro _ _ ⟨rfl, rfl⟩
    refine ⟨rfl, fun g => ?_⟩
    refine ⟨[.string ⟨⟨F start (splitN n)⟩⟩], rfl, rdRow 1 rfl, rfl, by show (_ + _) * 16 ≤ _; omega, by omega, .inr ⟨0, rfl, rfl, rfl, rfl, rfl, rfl, fun A' cap' hg' => ?_⟩⟩
    refine ⟨_, Ent.drop [_] [_], A', _, cap', _, rfl, rfl, ?_, ?_, hg'⟩
    · rw [pathG_hi h2 hik, List.length_reverse, List.length_cons]; omega
    · rw [pathG_hi h2 hik, List.reverse_cons, ← SV_snoc, hxs]

set_option maxRecDepth 100000 in
set_option maxHeartbeats 1000000 in
theorem pathM_ok (fr : FuncId) (c : Value) (F : Nat → Nat → Str) (N : Nat) (hN : N ≤ 1000000000) : ∀ (n : Nat) (R : Rd) (start i : Nat),
    (∀ R' : Rd, (∀ a v, R a v → R' a v) → ∀ s m, s + m ≤ N → Fn Tryd.prog fr [c, .int .i64 s, .int .i64 m] [] R' (fun v h => v = .string ⟨⟨F s m⟩⟩ ∧ h = [])) →
    i < n → start + n ≤ N →
    Fn Tryd.prog 88 [.func (.func fr) #[c] #[], .int .i64 start, .int .i64 i, .int .i64 n] [] R (fun v h => OwnT v (pathG F start n i).reverse h) := by
  have hML := maxLen_eq
  intro n
  induction n using Nat.strongRecOn with
  | _ n ih =>
  intro R start i hF hi hle
  refine fn_of_vc mixed tabOk Tryd.func88 rfl (by kernel_rfl) (Nat.le_of_ble_eq_true rfl) ?_
  refine ⟨fun hb => ?_, fun hb => ?_⟩
  · replace hb := of_decide_eq_true hb
    obtain rfl : n = 1 := by omega
    refine ⟨_, Ent.nilrow [] 9 1, .none, 0, 0, [], rfl, rfl, ?_, ?_, .inl rfl⟩
    · rw [pathG_one (Nat.le_refl _)]; rfl
    · rw [pathG_one (Nat.le_refl _)]; rfl
  replace hb := of_decide_eq_false hb
  have h2 : 2 ≤ n := by omega
  clear hb
  have hk := splitN_lt h2
  have hk0 := splitN_pos n
  refine ⟨[], _, split_ok _ n h2 (by omega), ?_⟩
  rintro _ _ ⟨rfl, rfl⟩
  refine ⟨fun hb => ?_, fun hb => ?_⟩
  · replace hb := of_decide_eq_true hb
    have hik : i < splitN n := by omega
    clear hb
    refine ⟨[], _, ih (splitN n) hk _ start i (fun R' h => hF R' fun a v hv => h a v (.inl hv)) hik (by omega), ?_⟩
    rintro _ _ ⟨A, k, cap, xs, rfl, rfl, hkl, hxs, hg⟩
    have hpl := pathG_le F (splitN n) start i
    rw [List.length_reverse] at hkl
    (intro z hz; obtain rfl : z = ((start + splitN n : Nat) : Int) := (by first | (rw [IntKind.wrap_i64] at hz; omega) | (rw [IntKind.wrap_u64] at hz; omega) | omega); clear hz)
    (intro z hz; obtain rfl : z = ((n - splitN n : Nat) : Int) := (by first | (rw [IntKind.wrap_i64] at hz; omega) | (rw [IntKind.wrap_u64] at hz; omega) | omega); clear hz)
    refine ⟨[], _, hF _ (fun a v hv => .inl hv) (start + splitN n) (n - splitN n) (by omega), ?_⟩
    rintro _ _ ⟨rfl, rfl⟩
    refine ⟨rfl, fun g => ?_⟩
    refine ⟨[.string ⟨⟨F (start + splitN n) (n - splitN n)⟩⟩], rfl, rdRow 1 rfl, rfl, by show (_ + _) * 16 ≤ _; omega, by omega, .inr ⟨0, rfl, rfl, rfl, rfl, rfl, rfl, fun A' cap' hg' => ?_⟩⟩
    refine ⟨_, Ent.drop [_] [_], A', _, cap', _, rfl, rfl, ?_, ?_, hg'⟩
    · rw [pathG_lo h2 hik, List.length_reverse, List.length_cons]; omega
    · rw [pathG_lo h2 hik, List.reverse_cons, ← SV_snoc, hxs]
  · replace hb := of_decide_eq_false hb
    have hik : ¬ i < splitN n := by omega
    clear hb
    (intro z hz; obtain rfl : z = ((start + splitN n : Nat) : Int) := (by first | (rw [IntKind.wrap_i64] at hz; omega) | (rw [IntKind.wrap_u64] at hz; omega) | omega); clear hz)
    (intro z hz; obtain rfl : z = ((i - splitN n : Nat) : Int) := (by first | (rw [IntKind.wrap_i64] at hz; omega) | (rw [IntKind.wrap_u64] at hz; omega) | omega); clear hz)
    (intro z hz; obtain rfl : z = ((n - splitN n : Nat) : Int) := (by first | (rw [IntKind.wrap_i64] at hz; omega) | (rw [IntKind.wrap_u64] at hz; omega) | omega); clear hz)
    refine ⟨[], _, ih (n - splitN n) (by omega) _ (start + splitN n) (i - splitN n) (fun R' h => hF R' fun a v hv => h a v (.inl hv)) (by omega) (by omega), ?_⟩
    rintro _ _ ⟨A, k, cap, xs, rfl, rfl, hkl, hxs, hg⟩
    have hpl := pathG_le F (n - splitN n) (start + splitN n) (i - splitN n)
    rw [List.length_reverse] at hkl
    refine ⟨[], _, hF _ (fun a v hv => .inl hv) start (splitN n) (by omega), ?_⟩
    rintro _ _ ⟨rfl, rfl⟩
    refine ⟨rfl, fun g => ?_⟩
    refine ⟨[.string ⟨⟨F start (splitN n)⟩⟩], rfl, rdRow 1 rfl, rfl, by show (_ + _) * 16 ≤ _; omega, by omega, .inr ⟨0, rfl, rfl, rfl, rfl, rfl, rfl, fun A' cap' hg' => ?_⟩⟩
    refine ⟨_, Ent.drop [_] [_], A', _, cap', _, rfl, rfl, ?_, ?_, hg'⟩
    · rw [pathG_hi h2 hik, List.length_reverse, List.length_cons]; omega
    · rw [pathG_hi h2 hik, List.reverse_cons, ← SV_snoc, hxs]

end Go.Proofs.YtgnmbgbiajgpeaaDoor

namespace Go.Proofs.YtgnmbgbiajgpeaaDoor
open Go Go.RowKit
set_option linter.unusedVariables false

theorem pathR_le : ∀ (n : Nat) (l : List Str) (i : Nat), l.length = n → (pathR l i).length ≤ n := by
  intro n
  induction n using Nat.strongRecOn with
  | _ n ih =>
  intro l i hl
  by_cases h : n ≤ 1
  · rw [pathR_one (by omega)]; simp
  · have h2 : 2 ≤ l.length := by omega
    have hk := splitN_lt h2
    have hk0 := splitN_pos l.length
    by_cases hi : i < splitN l.length
    · rw [pathR_lo h2 hi, List.length_cons]; have := ih (splitN l.length) (by omega) (l.take (splitN l.length)) i (by rw [List.length_take]; omega); omega
    · rw [pathR_hi h2 hi, List.length_cons]; have := ih (l.length - splitN l.length) (by omega) (l.drop (splitN l.length)) (i - splitN l.length) (by rw [List.length_drop]); omega

/-- What Path answers: a path, or an error. -/
def PathPost (l : List Str) (i : Int) (v : Value) (h : Hp) : Prop :=
  ∃ A k cap xs, h = [.row A k cap 9 1 xs (0, 0)] ∧ grow k A ∧
    ((¬ (0 ≤ i ∧ i < l.length) ∧ v = .tuple ⟨[.slice A k cap, .int .i64 1]⟩ ∧ k = 0 ∧ xs = []) ∨ (0 ≤ i ∧ i < l.length ∧ v = .tuple ⟨[.slice A k cap, .int .i64 0]⟩ ∧ k = (pathOf l i.toNat).length ∧ xs = SV (pathOf l i.toNat)))

theorem Path1_ok (R : Rd) (hG : ShaG R) (l : List Str) (A : Option Addr) (cap g : Nat) (hsm : Small l) (hs : Ss R (.slice A l.length cap) l) (hg : R ⟨g, 0, .none⟩ (.slice A l.length cap)) (s m : Nat) (hle : s + m ≤ l.length) :
    Fn Tryd.prog 87 [.int .i64 s, .int .i64 m, .pointer (some ⟨g, 0, .none⟩)] [] R (fun v h => v = .string ⟨⟨rootOf ((l.drop s).take m)⟩⟩ ∧ h = []) := by
  have hlen := hsm.1
  obtain ⟨A', cap', e, hc, hsr⟩ := hs
  cases e
  refine fn_of_vc mixed tabOk Tryd.func87 rfl (by kernel_rfl) (Nat.le_of_ble_eq_true rfl) ?_
  refine ⟨_, .inl hg, ?_⟩
  (intro z hz; obtain rfl : z = ((s + m : Nat) : Int) := (by first | (rw [IntKind.wrap_i64] at hz; omega) | (rw [IntKind.wrap_u64] at hz; omega) | omega); clear hz)
  refine ⟨s, s + m, rfl, rfl, by omega, by omega, ?_⟩
  have h1 := hsr.sub (l := s) (h := s + m) (by omega) hle hc
  have e1 : s + m - s = m := by omega
  rw [e1] at h1 ⊢
  have hl : ((l.drop s).take m).length = m := by rw [List.length_take, List.length_drop]; omega
  refine ⟨[], _, Root_ok _ (hG.rh _) _ ((l.drop s).take m) _ rfl ((hsm.drop _).take _) ⟨_, _, by rw [hl], by omega, h1.rh _⟩, ?_⟩
  rintro _ _ ⟨rfl, rfl⟩
  exact ⟨_, Ent.refl _, rfl, rfl⟩

set_option maxRecDepth 100000 in
theorem Path_ok (R : Rd) (hG : ShaG R) (l : List Str) (i : Int) (v0 : Value) (hsm : Small l) (hs : Ss R v0 l) :
    Fn Tryd.prog 73 [v0, .int .i64 i] [] R (fun v h => PathPost l i v h) := by
  have hs' := hs
  have hlen := hsm.1
  obtain ⟨A, cap, rfl, hc, hsr⟩ := hs
  refine fn_of_vc mixed tabOk Tryd.func73 rfl (by kernel_rfl) (Nat.le_of_ble_eq_true rfl) ?_
  intro g
  by_cases c1 : i < 0
  · repeat (first | (refine ⟨fun h => ?_, fun h => ?_⟩; rotate_left 1; (focus (exfalso; (first | (with_reducible (cases h; done)) | (revert h; simp; done) | (revert h; simp; omega) | (revert h; simp [*]; done)))); clear h) | (refine ⟨fun h => ?_, fun h => ?_⟩; (focus (exfalso; (first | (with_reducible (cases h; done)) | (revert h; simp; done) | (revert h; simp; omega) | (revert h; simp [*]; done)))); clear h))
    exact ⟨_, (Ent.nilrow _ 9 1).trans (Ent.dropr [_] [_]), .none, 0, 0, [], rfl, .inl rfl, .inl ⟨by omega, rfl, rfl, rfl⟩⟩
  by_cases c2 : (l.length : Int) ≤ i
  · repeat (first | (refine ⟨fun h => ?_, fun h => ?_⟩; rotate_left 1; (focus (exfalso; (first | (with_reducible (cases h; done)) | (revert h; simp; done) | (revert h; simp; omega) | (revert h; simp [*]; done)))); clear h) | (refine ⟨fun h => ?_, fun h => ?_⟩; (focus (exfalso; (first | (with_reducible (cases h; done)) | (revert h; simp; done) | (revert h; simp; omega) | (revert h; simp [*]; done)))); clear h))
    refine ⟨_, ld 0 rfl rfl, ?_⟩
    repeat (first | (refine ⟨fun h => ?_, fun h => ?_⟩; rotate_left 1; (focus (exfalso; (first | (with_reducible (cases h; done)) | (revert h; simp; done) | (revert h; simp; omega) | (revert h; simp [*]; done)))); clear h) | (refine ⟨fun h => ?_, fun h => ?_⟩; (focus (exfalso; (first | (with_reducible (cases h; done)) | (revert h; simp; done) | (revert h; simp; omega) | (revert h; simp [*]; done)))); clear h))
    exact ⟨_, (Ent.nilrow _ 9 1).trans (Ent.dropr [_] [_]), .none, 0, 0, [], rfl, .inl rfl, .inl ⟨by omega, rfl, rfl, rfl⟩⟩
  repeat (first | (refine ⟨fun h => ?_, fun h => ?_⟩; rotate_left 1; (focus (exfalso; (first | (with_reducible (cases h; done)) | (revert h; simp; done) | (revert h; simp; omega) | (revert h; simp [*]; done)))); clear h) | (refine ⟨fun h => ?_, fun h => ?_⟩; (focus (exfalso; (first | (with_reducible (cases h; done)) | (revert h; simp; done) | (revert h; simp; omega) | (revert h; simp [*]; done)))); clear h))
  refine ⟨_, ld 0 rfl rfl, ?_⟩
  repeat (first | (refine ⟨fun h => ?_, fun h => ?_⟩; rotate_left 1; (focus (exfalso; (first | (with_reducible (cases h; done)) | (revert h; simp; done) | (revert h; simp; omega) | (revert h; simp [*]; done)))); clear h) | (refine ⟨fun h => ?_, fun h => ?_⟩; (focus (exfalso; (first | (with_reducible (cases h; done)) | (revert h; simp; done) | (revert h; simp; omega) | (revert h; simp [*]; done)))); clear h))
  refine ⟨_, ld 0 rfl rfl, ?_⟩
  obtain ⟨i, rfl⟩ := Int.eq_ofNat_of_zero_le (show 0 ≤ i by omega)
  refine ⟨[], _, pathC_ok 87 (.pointer (some ⟨g, 0, .none⟩)) (fun s m => rootOf ((l.drop s).take m)) l.length (by omega) l.length _ 0 i (fun R' hR s m hle => Path1_ok R' ((hG.rh _).mono hR) l A cap g hsm ((hs'.rh _).mono hR) (hR _ _ (ld 0 rfl rfl)) s m hle) (by omega) (by omega), ?_⟩
  rintro _ _ ⟨A, k, cap, xs, rfl, rfl, hkl, hxs, hg⟩
  have e : pathG (fun s m => rootOf ((l.drop s).take m)) 0 l.length i = pathR l i := by
    rw [pathG_root l l.length 0 i (by omega), List.drop_zero, List.take_length]
  rw [e] at hkl hxs
  exact ⟨_, Ent.dropr [_] [_], A, k, cap, xs, rfl, hg, .inr ⟨by omega, by omega, rfl, hkl, hxs⟩⟩

theorem bothR_len {old : Str} (ho : old.length ≤ 1000000) : ∀ (rp : List Str) (m n : Nat) (b : Bool), (∀ s ∈ rp, s.length ≤ 1000000) → (bothR old rp m n b).1.length ≤ 1000000 ∧ (bothR old rp m n b).2.1.length ≤ 1000000
  | [], m, n, b, _ => by
    unfold bothR
    split
    · split
      · exact ⟨ho, ho⟩
      · simp
    · simp
  | last :: rest, m, n, b, h => by
    have hl := h last (by simp)
    have ih := fun m n b => bothR_len ho rest m n b (fun s hs => h s (by simp [hs]))
    have hn : ∀ a b, (nodeOf a b).length ≤ 1000000 := fun a b => by rw [nodeOf_length]; omega
    unfold bothR
    split
    · split
      · exact ⟨ho, ho⟩
      · split
        · exact ⟨hl, hl⟩
        · simp
    · split
      · exact ⟨(ih _ _ _).1, hn _ _⟩
      · exact ⟨hn _ _, hn _ _⟩
theorem Small.revmem {l : List Str} (h : Small l.reverse) : ∀ s ∈ l, s.length ≤ 1000000 := fun s hs => h.2 s (by simpa using hs)

end Go.Proofs.YtgnmbgbiajgpeaaDoor
