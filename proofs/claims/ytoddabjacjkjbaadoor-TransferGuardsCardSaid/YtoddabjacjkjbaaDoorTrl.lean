/-
  Transfer: what honest parts do; the chapter's example; awake.
-/
import Derived.Test.YtoddabjacjkjbaaDoorTrk
namespace Go.Proofs.YtoddabjacjkjbaaDoor
open Go Go.RowKit
set_option linter.unusedVariables false

theorem blocks_cat (x : Str) : ∀ k, cat ((List.range k).map (blockOf x 512)) = x.take (k * 512)
  | 0 => by simp [cat]
  | k + 1 => by
    rw [List.range_succ, List.map_append, List.map_cons, List.map_nil, cat_snoc, blocks_cat x k, Nat.succ_mul, List.take_add]
    congr 1
    show (x.drop (k * 512)).take (min 512 (x.length - k * 512)) = _
    have := take_min (x.drop (k * 512)) 512
    rwa [List.length_drop] at this
theorem part_off (p : Pc) (i : Nat) : (partAt p i).off.toNat / 512 = i := by
  show ((i * 512 : Nat) : Int).toNat / 512 = i
  rw [Int.toNat_natCast]; omega
theorem part_there {p : Pc} {i : Nat} (hi : i < partsN p.dt.length) : thereB p.dt.length (partAt p i).off = true := by
  unfold partsN at hi
  refine decide_eq_true ⟨?_, ?_, ?_⟩
  · show (0 : Int) ≤ ((i * 512 : Nat) : Int); omega
  · show ((i * 512 : Nat) : Int) < _; omega
  · show ((i * 512 : Nat) : Int).toNat % 512 = 0; rw [Int.toNat_natCast]; omega
theorem part_see {p : Pc} (w : VPc p) {i : Nat} (hi : i < partsN p.dt.length) : seeB (p.sums.getD p.ix.toNat []) p.dt.length 512 (i : Int) (partAt p i).dt (partAt p i).path = true := by
  rw [← w.sum]
  have h := there_good (part_there (p := p) hi)
  rw [part_off] at h
  exact (see_good (s := 512) h).1
theorem honest {p : Pc} (w : VPc p) {i : Nat} (hi : i < partsN p.dt.length) {sls : List Slot} (hs : sls.getD i .none = .none) : recvE p.hd sls (partAt p i) = 0 := by
  have ho := part_off p i
  rw [recvE_see (h := p.hd) ⟨part_there hi, rfl, rfl⟩ (by rw [ho]; exact hs), ho]
  exact if_pos (part_see w hi)
theorem honest_again {p : Pc} {i : Nat} (hi : i < partsN p.dt.length) {sls : List Slot} {x : Str × List Str} (hs : sls.getD i .none = some x) : recvE p.hd sls (partAt p i) = 5 := by
  have ho := part_off p i
  exact recvE_there (h := p.hd) ⟨part_there hi, rfl, rfl⟩ (by rw [ho]; exact hs)
theorem honest_set {p : Pc} (w : VPc p) {i : Nat} (hi : i < partsN p.dt.length) {sls : List Slot} (hs : sls.getD i .none = .none) : recvS p.hd sls (partAt p i) = sls.set i (some ((partAt p i).dt, (partAt p i).path)) := by
  rw [recvS_yes (honest w hi hs), part_off]

theorem part_path_le (p : Pc) (i : Nat) : (partAt p i).path.length ≤ p.dt.length := by
  show (pathR (blockLeaves 512 p.dt) i).reverse.length ≤ _
  rw [List.length_reverse]
  exact Nat.le_trans (pathR_le _ _ i rfl) (blockLeaves_le 512 _ p.dt rfl)
theorem part_dt_le (p : Pc) (i : Nat) : (partAt p i).dt.length ≤ 512 := by
  show (blockOf p.dt 512 i).length ≤ _
  rw [blockOf_length]; omega

/-! ### the example -/
/-- The example's bytes, and what is asked of them. -/
structure Ex (dt r : Str) : Prop where
  len : dt.length = 600
  first : dt.take 512 = 3 :: r
  ne : nodeOf (leafOf (2 :: r)) (leafOf (dt.drop 512)) ≠ nodeOf (leafOf (dt.take 512)) (leafOf (dt.drop 512))
theorem ex_inst : Ex exD ((exD.take 512).drop 1) := ⟨bytesL_length 600 3, by decide +kernel, ex_ne⟩
def exP (dt : Str) : Pc := pieceP dt 1 3
def exA (dt : Str) : Pt := partAt (exP dt) 0
def exBp (dt : Str) : Pt := partAt (exP dt) 1
def exS0 : List Slot := [.none, .none]
def exS1 (dt : Str) : List Slot := [.none, some ((exBp dt).dt, (exBp dt).path)]
def exS2 (dt : Str) : List Slot := [some ((exA dt).dt, (exA dt).path), some ((exBp dt).dt, (exBp dt).path)]
def exBad (dt r : Str) : Pt := ⟨(exA dt).st, (exA dt).ix, (exA dt).off, 2 :: r, (exA dt).path⟩
theorem split2 : splitN 2 = 1 := by decide
theorem exP_dt (dt : Str) : (exP dt).dt = dt := rfl
theorem partAt_dt (p : Pc) (i : Nat) : (partAt p i).dt = blockOf p.dt 512 i := rfl
section
variable {dt r : Str} (hx : Ex dt r)
include hx
theorem exP_valid : VPc (exP dt) := piece_valid (by omega) (by omega) (by omega) (by omega) (by rw [hx.len]; omega) (by rw [hx.len]; omega)
theorem ex_parts : partsN (exP dt).dt.length = 2 := by
  show partsN dt.length = 2
  rw [hx.len, partsN]
theorem ex1 : recvE (exP dt).hd exS0 (exBp dt) = 0 ∧ recvS (exP dt).hd exS0 (exBp dt) = exS1 dt :=
  ⟨honest (exP_valid hx) (i := 1) (by rw [ex_parts hx]; omega) rfl, honest_set (exP_valid hx) (i := 1) (by rw [ex_parts hx]; omega) rfl⟩
theorem ex2 : recvE (exP dt).hd (exS1 dt) (exBp dt) = 5 ∧ recvS (exP dt).hd (exS1 dt) (exBp dt) = exS1 dt := by
  have h : recvE (exP dt).hd (exS1 dt) (exBp dt) = 5 := honest_again (p := exP dt) (i := 1) (by rw [ex_parts hx]; omega) (x := ((exBp dt).dt, (exBp dt).path)) rfl
  exact ⟨h, recvS_no (by rw [h]; decide)⟩
theorem ex4 : recvE (exP dt).hd (exS1 dt) (exA dt) = 0 ∧ recvS (exP dt).hd (exS1 dt) (exA dt) = exS2 dt :=
  ⟨honest (exP_valid hx) (i := 0) (by rw [ex_parts hx]; omega) rfl, honest_set (exP_valid hx) (i := 0) (by rw [ex_parts hx]; omega) rfl⟩
theorem ex_leaves : blockLeaves 512 dt = [leafOf (dt.take 512), leafOf (dt.drop 512)] := by
  have hl := hx.len
  rw [blockLeaves_cons (by omega) (by omega), blockLeaves_cons (by rw [List.length_drop]; omega) (by omega)]
  have h1 : (dt.drop 512).take 512 = dt.drop 512 := List.take_of_length_le (by rw [List.length_drop]; omega)
  have h2 : (dt.drop 512).drop 512 = [] := List.drop_eq_nil_of_le (by rw [List.length_drop]; omega)
  rw [h1, h2, blockLeaves_nil]
theorem exA_dt : (exA dt).dt = dt.take 512 := by
  show (dt.drop (0 * 512)).take (min 512 (dt.length - 0 * 512)) = _
  rw [hx.len]; rfl
theorem exA_path : (exA dt).path = [leafOf (dt.drop 512)] := by
  show pathOf (blockLeaves 512 dt) 0 = _
  rw [ex_leaves hx, pathOf, pathR_lo (by show 2 ≤ 2; omega) (by show 0 < splitN 2; rw [split2]; omega)]
  show (rootOf ([leafOf (dt.take 512), leafOf (dt.drop 512)].drop (splitN 2)) :: pathR ([leafOf (dt.take 512), leafOf (dt.drop 512)].take (splitN 2)) 0).reverse = _
  rw [split2, pathR_one (by show 1 ≤ 1; omega), rootOf_one (by rfl)]; rfl
theorem exR_length : (2 :: r : Str).length = 512 := by
  have h3 := congrArg List.length hx.first
  rw [List.length_take, hx.len, List.length_cons] at h3
  rw [List.length_cons]; omega
theorem ex_root : (exP dt).sums.getD (exP dt).ix.toNat [] = nodeOf (leafOf (dt.take 512)) (leafOf (dt.drop 512)) := by
  rw [← (exP_valid hx).sum]
  show rootOf (blockLeaves 512 dt) = _
  rw [ex_leaves hx, rootOf_two (by show 2 ≤ 2; omega)]
  show nodeOf (rootOf ([leafOf (dt.take 512), leafOf (dt.drop 512)].take (splitN 2))) (rootOf ([leafOf (dt.take 512), leafOf (dt.drop 512)].drop (splitN 2))) = _
  rw [split2, rootOf_one (by rfl), rootOf_one (by rfl)]; rfl
theorem ex3 : recvE (exP dt).hd (exS1 dt) (exBad dt r) = 9 ∧ recvS (exP dt).hd (exS1 dt) (exBad dt r) = exS1 dt := by
  have h : recvE (exP dt).hd (exS1 dt) (exBad dt r) = 9 := by
    have ho : (exBad dt r).off.toNat / 512 = 0 := part_off (exP dt) 0
    rw [recvE_see (h := (exP dt).hd) (p := exBad dt r) ⟨part_there (p := exP dt) (i := 0) (by rw [ex_parts hx]; omega), rfl, rfl⟩ (by rw [ho]; rfl), ho]
    have hsz : (exP dt).hd.sz = ((600 : Nat) : Int) := by show (dt.length : Int) = _; rw [hx.len]
    have hrt : (exP dt).hd.sums.getD (exP dt).hd.ix.toNat [] = nodeOf (leafOf (dt.take 512)) (leafOf (dt.drop 512)) := ex_root hx
    have hno : seeB ((exP dt).hd.sums.getD (exP dt).hd.ix.toNat []) (exP dt).hd.sz 512 ((0 : Nat) : Int) (exBad dt r).dt (exBad dt r).path = false := by
      rw [hsz, hrt, show (512 : Int) = ((512 : Nat) : Int) from rfl, seeB_nat (by omega) (by omega) (by omega), if_pos (by show (2 :: r : Str).length = _; rw [exR_length hx]; rfl)]
      show verifyB (leafOf (2 :: r)) ((0 : Nat) : Int) ((2 : Nat) : Int) (exA dt).path _ = false
      rw [exA_path hx, verifyB_up (by omega) (leafOf_length _) (nodeOf_length _ _) (by simp [sumsB, leafOf_length])]
      have e : upR (leafOf (2 :: r)) [leafOf (dt.drop 512)].reverse 0 2 = (nodeOf (leafOf (2 :: r)) (leafOf (dt.drop 512)), true) := by
        show upR (leafOf (2 :: r)) [leafOf (dt.drop 512)] 0 2 = _
        rw [upR_lo _ _ _ (by omega) (by rw [split2]; omega), split2, upR_nil1]
      rw [e]
      have := hx.ne
      simp [this]
    rw [hno]; rfl
  exact ⟨h, recvS_no (by rw [h]; decide)⟩
theorem exBp_dt : (exBp dt).dt.length = 88 := by
  unfold exBp
  rw [partAt_dt, exP_dt, blockOf_length, hx.len]
  decide
theorem ex_have1 : (haveB (exS1 dt)).length = 88 := by
  show (cat [[], (exBp dt).dt]).length = 88
  have : cat [[], (exBp dt).dt] = (exBp dt).dt := by simp [cat]
  rw [this, exBp_dt hx]
theorem ex_have2 : haveB (exS2 dt) = dt := by
  have h2 := blocks_cat dt 2
  rw [List.take_of_length_le (by rw [hx.len]; omega), show List.range 2 = [0, 1] from rfl] at h2
  have e : haveB (exS2 dt) = cat [(exA dt).dt, (exBp dt).dt] := rfl
  rw [e]
  unfold exA exBp
  rw [partAt_dt, partAt_dt, exP_dt]
  exact h2
theorem good0 : GoodR (exP dt).hd exS0 := by
  have := GoodR.new (exP_valid hx).wf (exP_valid hx).root
  have e : List.replicate (partsN (exP dt).hd.sz.toNat) (.none : Slot) = exS0 := by
    show List.replicate (partsN ((exP dt).dt.length : Int).toNat) _ = _
    rw [Int.toNat_natCast, ex_parts hx]; rfl
  rwa [e] at this
theorem good1 : GoodR (exP dt).hd (exS1 dt) := by have := (good0 hx).recv (exBp dt); rwa [(ex1 hx).2] at this
theorem good2 : GoodR (exP dt).hd (exS2 dt) := by have := (good1 hx).recv (exA dt); rwa [(ex4 hx).2] at this
end
theorem ex_miss1 (dt : Str) : missL (exS1 dt) = [0] := rfl
theorem ex_miss2 (dt : Str) : missL (exS2 dt) = [] := rfl

end Go.Proofs.YtoddabjacjkjbaaDoor
