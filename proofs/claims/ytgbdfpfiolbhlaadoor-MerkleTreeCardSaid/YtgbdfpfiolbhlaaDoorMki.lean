/-
  The law MerkleSee, with count, extent, See and its reference.
-/
import Derived.Test.YtgbdfpfiolbhlaaDoorMkh
namespace Go.Proofs.YtgbdfpfiolbhlaaDoor
open Go Go.RowKit
set_option linter.unusedVariables false

theorem quo_nat {a b : Nat} {x z : Int} (hx : x = (a : Int)) (ha : a ≤ 9223372036854775807) (hz : z = IntKind.i64.wrap (x.tdiv (b : Int))) : z = ((a / b : Nat) : Int) := by
  subst hx
  have e : ((a : Int)).tdiv (b : Int) = ((a / b : Nat) : Int) := (Int.ofNat_tdiv a b).symm
  have hd : a / b ≤ a := Nat.div_le_self a b
  rw [e] at hz
  generalize a / b = q at hz hd ⊢
  exact wr_i64 hz (by omega) (by omega)
theorem mul_nat {a b : Nat} {z : Int} (ha : a * b ≤ 9223372036854775807) (hz : z = IntKind.i64.wrap ((a : Int) * (b : Int))) : z = ((a * b : Nat) : Int) := by
  rw [← Int.natCast_mul] at hz
  exact wr_i64 hz (by omega) (by omega)

def countN (n size : Nat) : Nat := if n = 0 then 0 else (n - 1) / size + 1
theorem countN_le (n size : Nat) : countN n size ≤ n := by
  unfold countN
  have : (n - 1) / size ≤ n - 1 := Nat.div_le_self _ _
  split <;> omega

theorem count_ok (R : Rd) (n size : Nat) (hn : n ≤ 9223372036854775807) (hs : 1 ≤ size) : Fn Tryd.prog 72 [.int .i64 n, .int .i64 size] [] R (fun v h => v = .int .i64 (countN n size) ∧ h = []) := by
  refine fn_of_vc mixed tabOk Tryd.func72 rfl (by kernel_rfl) (Nat.le_of_ble_eq_true rfl) ?_
  refine ⟨fun hb => ?_, fun hb => ?_⟩
  · replace hb := of_decide_eq_true hb
    refine ⟨_, Ent.refl _, ?_, rfl⟩
    rw [countN, if_pos (by omega)]; rfl
  · replace hb := of_decide_eq_false hb
    have hn0 : n ≠ 0 := by omega
    clear hb
    have hd : (n - 1) / size ≤ n - 1 := Nat.div_le_self _ _
    (intro z hz; obtain rfl : z = ((n - 1 : Nat) : Int) := (by first | (rw [IntKind.wrap_i64] at hz; omega) | (rw [IntKind.wrap_u64] at hz; omega) | omega); clear hz)
    refine ⟨by omega, ?_⟩
    intro z hz
    obtain rfl := quo_nat rfl (by omega) hz
    clear hz
    rw [countN, if_neg hn0]
    generalize (n - 1) / size = q at hd ⊢
    (intro z hz; obtain rfl : z = ((q + 1 : Nat) : Int) := (by first | (rw [IntKind.wrap_i64] at hz; omega) | (rw [IntKind.wrap_u64] at hz; omega) | omega); clear hz)
    exact ⟨_, Ent.refl _, rfl, rfl⟩

theorem extent_ok (R : Rd) (n size block : Nat) (hn : n ≤ 9223372036854775807) (hb : block * size ≤ n) (hs : size ≤ 9223372036854775807) : Fn Tryd.prog 73 [.int .i64 n, .int .i64 size, .int .i64 block] [] R (fun v h => v = .int .i64 (min size (n - block * size) : Nat) ∧ h = []) := by
  refine fn_of_vc mixed tabOk Tryd.func73 rfl (by kernel_rfl) (Nat.le_of_ble_eq_true rfl) ?_
  intro z hz
  obtain rfl := mul_nat (by omega) hz
  clear hz
  generalize block * size = q at *
  (intro z hz; obtain rfl : z = ((n - q : Nat) : Int) := (by first | (rw [IntKind.wrap_i64] at hz; omega) | (rw [IntKind.wrap_u64] at hz; omega) | omega); clear hz)
  (intro z hz; obtain rfl : z = ((min size (n - q) : Nat) : Int) := (by first | (rw [IntKind.wrap_i64] at hz; omega) | (rw [IntKind.wrap_u64] at hz; omega) | omega); clear hz)
  exact ⟨_, Ent.refl _, rfl, rfl⟩

theorem block_le {n size block : Nat} (h1 : 1 ≤ n) (hb : block ≤ (n - 1) / size) : block * size ≤ n - 1 := Nat.le_trans (Nat.mul_le_mul_right _ hb) (Nat.div_mul_le_self _ _)

def seeB (root : Str) (n size block : Int) (x : Str) (path : List Str) : Bool :=
  if 1 ≤ n ∧ 1 ≤ size ∧ 0 ≤ block ∧ block ≤ (((n.toNat - 1) / size.toNat : Nat) : Int) then
    (if x.length = min size.toNat (n.toNat - block.toNat * size.toNat) then verifyB (leafOf x) block (((n.toNat - 1) / size.toNat + 1 : Nat) : Int) path root else false) else false
theorem seeB_no {root : Str} {n size block : Int} {x : Str} {path : List Str} (h : ¬ (1 ≤ n ∧ 1 ≤ size ∧ 0 ≤ block ∧ block ≤ (((n.toNat - 1) / size.toNat : Nat) : Int))) : seeB root n size block x path = false := if_neg h
theorem seeB_nat {root : Str} {n size block : Nat} {x : Str} {path : List Str} (h1 : 1 ≤ n) (h2 : 1 ≤ size) (h3 : block ≤ (n - 1) / size) :
    seeB root n size block x path = if x.length = min size (n - block * size) then verifyB (leafOf x) block (((n - 1) / size + 1 : Nat) : Int) path root else false := by
  rw [seeB, if_pos ⟨by omega, by omega, by omega, by simp only [Int.toNat_natCast]; omega⟩]
  simp only [Int.toNat_natCast]

set_option maxRecDepth 100000 in
theorem See_ok (R : Rd) (hG : ShaG R) (root : Str) (n size block : Int) (x : Str) (A : Option Addr) (cap : Nat) (path : List Str) (v5 : Value) (hn : n ≤ 9223372036854775807) (hsz : size ≤ 9223372036854775807) (hb0 : -9223372036854775808 ≤ block)
    (hx : x.length ≤ 1000000000) (hcap : x.length ≤ cap) (hxs : BsR R (.slice A x.length cap) x) (hsm : Small path) (hs : Ss R v5 path) :
    Fn Tryd.prog 35 [.string ⟨⟨root⟩⟩, .int .i64 n, .int .i64 size, .int .i64 block, .slice A x.length cap, v5] [] R (fun v h => v = .bool (seeB root n size block x path) ∧ h = []) := by
  have hs' := hs
  obtain ⟨B, cap2, rfl, hc, hsr⟩ := hs
  refine fn_of_vc mixed tabOk Tryd.func35 rfl (by kernel_rfl) (Nat.le_of_ble_eq_true rfl) ?_
  by_cases c1 : n < 1
  · repeat (first | (refine ⟨fun h => ?_, fun h => ?_⟩; rotate_left 1; (focus (exfalso; (first | (with_reducible (cases h; done)) | (revert h; simp; done) | (revert h; simp; omega) | (revert h; simp [*]; done)))); clear h) | (refine ⟨fun h => ?_, fun h => ?_⟩; (focus (exfalso; (first | (with_reducible (cases h; done)) | (revert h; simp; done) | (revert h; simp; omega) | (revert h; simp [*]; done)))); clear h))
    refine ⟨_, Ent.refl _, ?_, rfl⟩
    rw [seeB_no (by omega)]; rfl
  by_cases c2 : size < 1
  · repeat (first | (refine ⟨fun h => ?_, fun h => ?_⟩; rotate_left 1; (focus (exfalso; (first | (with_reducible (cases h; done)) | (revert h; simp; done) | (revert h; simp; omega) | (revert h; simp [*]; done)))); clear h) | (refine ⟨fun h => ?_, fun h => ?_⟩; (focus (exfalso; (first | (with_reducible (cases h; done)) | (revert h; simp; done) | (revert h; simp; omega) | (revert h; simp [*]; done)))); clear h))
    refine ⟨_, Ent.refl _, ?_, rfl⟩
    rw [seeB_no (by omega)]; rfl
  by_cases c3 : block < 0
  · repeat (first | (refine ⟨fun h => ?_, fun h => ?_⟩; rotate_left 1; (focus (exfalso; (first | (with_reducible (cases h; done)) | (revert h; simp; done) | (revert h; simp; omega) | (revert h; simp [*]; done)))); clear h) | (refine ⟨fun h => ?_, fun h => ?_⟩; (focus (exfalso; (first | (with_reducible (cases h; done)) | (revert h; simp; done) | (revert h; simp; omega) | (revert h; simp [*]; done)))); clear h))
    refine ⟨_, Ent.refl _, ?_, rfl⟩
    rw [seeB_no (by omega)]; rfl
  obtain ⟨n, rfl⟩ := Int.eq_ofNat_of_zero_le (show 0 ≤ n by omega)
  obtain ⟨size, rfl⟩ := Int.eq_ofNat_of_zero_le (show 0 ≤ size by omega)
  obtain ⟨block, rfl⟩ := Int.eq_ofNat_of_zero_le (show 0 ≤ block by omega)
  have hcn : countN n size = (n - 1) / size + 1 := by rw [countN, if_neg (by omega)]
  have hcl := countN_le n size
  repeat (first | (refine ⟨fun h => ?_, fun h => ?_⟩; rotate_left 1; (focus (exfalso; (first | (with_reducible (cases h; done)) | (revert h; simp; done) | (revert h; simp; omega) | (revert h; simp [*]; done)))); clear h) | (refine ⟨fun h => ?_, fun h => ?_⟩; (focus (exfalso; (first | (with_reducible (cases h; done)) | (revert h; simp; done) | (revert h; simp; omega) | (revert h; simp [*]; done)))); clear h))
  refine ⟨[], _, count_ok _ n size (by omega) (by omega), ?_⟩
  rintro _ _ ⟨rfl, rfl⟩
  by_cases c4 : (countN n size : Int) ≤ block
  · repeat (first | (refine ⟨fun h => ?_, fun h => ?_⟩; rotate_left 1; (focus (exfalso; (first | (with_reducible (cases h; done)) | (revert h; simp; done) | (revert h; simp; omega) | (revert h; simp [*]; done)))); clear h) | (refine ⟨fun h => ?_, fun h => ?_⟩; (focus (exfalso; (first | (with_reducible (cases h; done)) | (revert h; simp; done) | (revert h; simp; omega) | (revert h; simp [*]; done)))); clear h))
    refine ⟨_, Ent.refl _, ?_, rfl⟩
    rw [seeB_no (by simp only [Int.toNat_natCast]; omega)]; rfl
  have hbl := block_le (n := n) (size := size) (block := block) (by omega) (by omega)
  repeat (first | (refine ⟨fun h => ?_, fun h => ?_⟩; rotate_left 1; (focus (exfalso; (first | (with_reducible (cases h; done)) | (revert h; simp; done) | (revert h; simp; omega) | (revert h; simp [*]; done)))); clear h) | (refine ⟨fun h => ?_, fun h => ?_⟩; (focus (exfalso; (first | (with_reducible (cases h; done)) | (revert h; simp; done) | (revert h; simp; omega) | (revert h; simp [*]; done)))); clear h))
  refine ⟨[], _, extent_ok _ n size block (by omega) (by omega) (by omega), ?_⟩
  rintro _ _ ⟨rfl, rfl⟩
  rw [seeB_nat (by omega) (by omega) (by omega)]
  by_cases c5 : (x.length : Int) = (min size (n - block * size) : Nat)
  case neg =>
    repeat (first | (refine ⟨fun h => ?_, fun h => ?_⟩; rotate_left 1; (focus (exfalso; (first | (with_reducible (cases h; done)) | (revert h; simp; done) | (revert h; simp; omega) | (revert h; simp [*]; done)))); clear h) | (refine ⟨fun h => ?_, fun h => ?_⟩; (focus (exfalso; (first | (with_reducible (cases h; done)) | (revert h; simp; done) | (revert h; simp; omega) | (revert h; simp [*]; done)))); clear h))
    refine ⟨_, Ent.refl _, ?_, rfl⟩
    rw [if_neg (by intro h; exact c5 (by rw [h]))]; rfl
  repeat (first | (refine ⟨fun h => ?_, fun h => ?_⟩; rotate_left 1; (focus (exfalso; (first | (with_reducible (cases h; done)) | (revert h; simp; done) | (revert h; simp; omega) | (revert h; simp [*]; done)))); clear h) | (refine ⟨fun h => ?_, fun h => ?_⟩; (focus (exfalso; (first | (with_reducible (cases h; done)) | (revert h; simp; done) | (revert h; simp; omega) | (revert h; simp [*]; done)))); clear h))
  refine ⟨[], _, Leaf_ok _ (hG.rh _) x A cap (by omega) hcap (hxs.rh _), ?_⟩
  rintro _ _ ⟨rfl, rfl⟩
  refine ⟨[], _, count_ok _ n size (by omega) (by omega), ?_⟩
  rintro _ _ ⟨rfl, rfl⟩
  refine ⟨[], _, Verify_ok _ (hG.rh _) (leafOf x) root block (countN n size) path _ (by omega) (by omega) (by rw [leafOf_length]; omega) hsm (hs'.rh _), ?_⟩
  rintro _ _ ⟨rfl, rfl⟩
  refine ⟨_, Ent.refl _, ?_, rfl⟩
  rw [if_pos (by exact_mod_cast c5), hcn]; rfl

set_option maxRecDepth 100000 in
theorem refSee_ok (R : Rd) (root : Str) (n size block : Int) (x : Str) (A : Option Addr) (cap : Nat) (path : List Str) (v5 : Value) (hn : n ≤ 9223372036854775807) (hsz : size ≤ 9223372036854775807) (hb0 : -9223372036854775808 ≤ block)
    (hx : x.length ≤ 1000000000) (hcap : x.length ≤ cap) (hxs : BsR R (.slice A x.length cap) x) (hsm : Small path) (hs : Ss R v5 path) :
    Fn Tryd.prog 36 [.string ⟨⟨root⟩⟩, .int .i64 n, .int .i64 size, .int .i64 block, .slice A x.length cap, v5] [] R (fun v h => v = .bool (seeB root n size block x path) ∧ h = []) := by
  have hs' := hs
  obtain ⟨B, cap2, rfl, hc, hsr⟩ := hs
  refine fn_of_vc mixed tabOk Tryd.func36 rfl (by kernel_rfl) (Nat.le_of_ble_eq_true rfl) ?_
  by_cases c1 : n < 1
  · repeat (first | (refine ⟨fun h => ?_, fun h => ?_⟩; rotate_left 1; (focus (exfalso; (first | (with_reducible (cases h; done)) | (revert h; simp; done) | (revert h; simp; omega) | (revert h; simp [*]; done)))); clear h) | (refine ⟨fun h => ?_, fun h => ?_⟩; (focus (exfalso; (first | (with_reducible (cases h; done)) | (revert h; simp; done) | (revert h; simp; omega) | (revert h; simp [*]; done)))); clear h))
    refine ⟨_, Ent.refl _, ?_, rfl⟩
    rw [seeB_no (by omega)]; rfl
  by_cases c2 : size < 1
  · repeat (first | (refine ⟨fun h => ?_, fun h => ?_⟩; rotate_left 1; (focus (exfalso; (first | (with_reducible (cases h; done)) | (revert h; simp; done) | (revert h; simp; omega) | (revert h; simp [*]; done)))); clear h) | (refine ⟨fun h => ?_, fun h => ?_⟩; (focus (exfalso; (first | (with_reducible (cases h; done)) | (revert h; simp; done) | (revert h; simp; omega) | (revert h; simp [*]; done)))); clear h))
    refine ⟨_, Ent.refl _, ?_, rfl⟩
    rw [seeB_no (by omega)]; rfl
  by_cases c3 : block < 0
  · repeat (first | (refine ⟨fun h => ?_, fun h => ?_⟩; rotate_left 1; (focus (exfalso; (first | (with_reducible (cases h; done)) | (revert h; simp; done) | (revert h; simp; omega) | (revert h; simp [*]; done)))); clear h) | (refine ⟨fun h => ?_, fun h => ?_⟩; (focus (exfalso; (first | (with_reducible (cases h; done)) | (revert h; simp; done) | (revert h; simp; omega) | (revert h; simp [*]; done)))); clear h))
    refine ⟨_, Ent.refl _, ?_, rfl⟩
    rw [seeB_no (by omega)]; rfl
  obtain ⟨n, rfl⟩ := Int.eq_ofNat_of_zero_le (show 0 ≤ n by omega)
  obtain ⟨size, rfl⟩ := Int.eq_ofNat_of_zero_le (show 0 ≤ size by omega)
  obtain ⟨block, rfl⟩ := Int.eq_ofNat_of_zero_le (show 0 ≤ block by omega)
  have hq : (n - 1) / size ≤ n - 1 := Nat.div_le_self _ _
  repeat (first | (refine ⟨fun h => ?_, fun h => ?_⟩; rotate_left 1; (focus (exfalso; (first | (with_reducible (cases h; done)) | (revert h; simp; done) | (revert h; simp; omega) | (revert h; simp [*]; done)))); clear h) | (refine ⟨fun h => ?_, fun h => ?_⟩; (focus (exfalso; (first | (with_reducible (cases h; done)) | (revert h; simp; done) | (revert h; simp; omega) | (revert h; simp [*]; done)))); clear h))
  (intro z hz; obtain rfl : z = ((n - 1 : Nat) : Int) := (by first | (rw [IntKind.wrap_i64] at hz; omega) | (rw [IntKind.wrap_u64] at hz; omega) | omega); clear hz)
  repeat (first | (refine ⟨fun h => ?_, fun h => ?_⟩; rotate_left 1; (focus (exfalso; (first | (with_reducible (cases h; done)) | (revert h; simp; done) | (revert h; simp; omega) | (revert h; simp [*]; done)))); clear h) | (refine ⟨fun h => ?_, fun h => ?_⟩; (focus (exfalso; (first | (with_reducible (cases h; done)) | (revert h; simp; done) | (revert h; simp; omega) | (revert h; simp [*]; done)))); clear h))
  refine ⟨by omega, ?_⟩
  intro z hz
  obtain rfl := quo_nat rfl (by omega) hz
  clear hz
  by_cases c4 : (((n - 1) / size : Nat) : Int) < block
  · repeat (first | (refine ⟨fun h => ?_, fun h => ?_⟩; rotate_left 1; (focus (exfalso; (first | (with_reducible (cases h; done)) | (revert h; simp; done) | (revert h; simp; omega) | (revert h; simp [*]; done)))); clear h) | (refine ⟨fun h => ?_, fun h => ?_⟩; (focus (exfalso; (first | (with_reducible (cases h; done)) | (revert h; simp; done) | (revert h; simp; omega) | (revert h; simp [*]; done)))); clear h))
    refine ⟨_, Ent.refl _, ?_, rfl⟩
    rw [seeB_no (by simp only [Int.toNat_natCast]; omega)]; rfl
  have hbl := block_le (n := n) (size := size) (block := block) (by omega) (by omega)
  repeat (first | (refine ⟨fun h => ?_, fun h => ?_⟩; rotate_left 1; (focus (exfalso; (first | (with_reducible (cases h; done)) | (revert h; simp; done) | (revert h; simp; omega) | (revert h; simp [*]; done)))); clear h) | (refine ⟨fun h => ?_, fun h => ?_⟩; (focus (exfalso; (first | (with_reducible (cases h; done)) | (revert h; simp; done) | (revert h; simp; omega) | (revert h; simp [*]; done)))); clear h))
  refine ⟨[], (.q 0 (.q 1 (.q 2 (.q 3 (.q 4 (.q 5 (.q 6 (.q 7 (.q 8 (.q 9 (.q 10 (.q 11 (.q 13 (.q 14 (.q 15 (.q 16 (.q 17 (.q 18 (.q 19 (.q 20 (.one 12 (.one 21 (.q 22 (.q 23 .nil)))))))))))))))))))))))), by kernel_rfl, ?_⟩
  intro z hz
  obtain rfl := mul_nat (by omega) hz
  clear hz
  (intro z hz; obtain rfl : z = ((n - block * size : Nat) : Int) := (by first | (rw [IntKind.wrap_i64] at hz; omega) | (rw [IntKind.wrap_u64] at hz; omega) | omega); clear hz)
  (intro z hz; obtain rfl : z = ((min size (n - block * size) : Nat) : Int) := (by first | (rw [IntKind.wrap_i64] at hz; omega) | (rw [IntKind.wrap_u64] at hz; omega) | omega); clear hz)
  rw [seeB_nat (by omega) (by omega) (by omega)]
  by_cases c5 : (x.length : Int) = (min size (n - block * size) : Nat)
  case neg =>
    repeat (first | (refine ⟨fun h => ?_, fun h => ?_⟩; rotate_left 1; (focus (exfalso; (first | (with_reducible (cases h; done)) | (revert h; simp; done) | (revert h; simp; omega) | (revert h; simp [*]; done)))); clear h) | (refine ⟨fun h => ?_, fun h => ?_⟩; (focus (exfalso; (first | (with_reducible (cases h; done)) | (revert h; simp; done) | (revert h; simp; omega) | (revert h; simp [*]; done)))); clear h))
    refine ⟨_, Ent.refl _, ?_, rfl⟩
    rw [if_neg (by intro h; exact c5 (by rw [h]))]; rfl
  repeat (first | (refine ⟨fun h => ?_, fun h => ?_⟩; rotate_left 1; (focus (exfalso; (first | (with_reducible (cases h; done)) | (revert h; simp; done) | (revert h; simp; omega) | (revert h; simp [*]; done)))); clear h) | (refine ⟨fun h => ?_, fun h => ?_⟩; (focus (exfalso; (first | (with_reducible (cases h; done)) | (revert h; simp; done) | (revert h; simp; omega) | (revert h; simp [*]; done)))); clear h))
  (intro z hz; obtain rfl : z = ((n - 1 : Nat) : Int) := (by first | (rw [IntKind.wrap_i64] at hz; omega) | (rw [IntKind.wrap_u64] at hz; omega) | omega); clear hz)
  repeat (first | (refine ⟨fun h => ?_, fun h => ?_⟩; rotate_left 1; (focus (exfalso; (first | (with_reducible (cases h; done)) | (revert h; simp; done) | (revert h; simp; omega) | (revert h; simp [*]; done)))); clear h) | (refine ⟨fun h => ?_, fun h => ?_⟩; (focus (exfalso; (first | (with_reducible (cases h; done)) | (revert h; simp; done) | (revert h; simp; omega) | (revert h; simp [*]; done)))); clear h))
  refine ⟨by omega, ?_⟩
  intro z hz
  obtain rfl := quo_nat rfl (by omega) hz
  clear hz
  generalize (n - 1) / size = q at hq c4 ⊢
  repeat (first | (refine ⟨fun h => ?_, fun h => ?_⟩; rotate_left 1; (focus (exfalso; (first | (with_reducible (cases h; done)) | (revert h; simp; done) | (revert h; simp; omega) | (revert h; simp [*]; done)))); clear h) | (refine ⟨fun h => ?_, fun h => ?_⟩; (focus (exfalso; (first | (with_reducible (cases h; done)) | (revert h; simp; done) | (revert h; simp; omega) | (revert h; simp [*]; done)))); clear h))
  (intro z hz; obtain rfl : z = ((q + 1 : Nat) : Int) := (by first | (rw [IntKind.wrap_i64] at hz; omega) | (rw [IntKind.wrap_u64] at hz; omega) | omega); clear hz)
  repeat (first | (refine ⟨fun h => ?_, fun h => ?_⟩; rotate_left 1; (focus (exfalso; (first | (with_reducible (cases h; done)) | (revert h; simp; done) | (revert h; simp; omega) | (revert h; simp [*]; done)))); clear h) | (refine ⟨fun h => ?_, fun h => ?_⟩; (focus (exfalso; (first | (with_reducible (cases h; done)) | (revert h; simp; done) | (revert h; simp; omega) | (revert h; simp [*]; done)))); clear h))
  refine ⟨[], _, refLeaf_ok _ x _ (by omega) ((hxs.rh _).rh _), ?_⟩
  rintro _ _ ⟨rfl, rfl⟩
  repeat (first | (refine ⟨fun h => ?_, fun h => ?_⟩; rotate_left 1; (focus (exfalso; (first | (with_reducible (cases h; done)) | (revert h; simp; done) | (revert h; simp; omega) | (revert h; simp [*]; done)))); clear h) | (refine ⟨fun h => ?_, fun h => ?_⟩; (focus (exfalso; (first | (with_reducible (cases h; done)) | (revert h; simp; done) | (revert h; simp; omega) | (revert h; simp [*]; done)))); clear h))
  refine ⟨[], _, refVerify_ok _ (leafOf x) root block (q + 1 : Nat) path _ (by omega) (by omega) (by rw [leafOf_length]; omega) hsm ((hs'.rh _).rh _), ?_⟩
  rintro _ _ ⟨rfl, rfl⟩
  repeat (first | (refine ⟨fun h => ?_, fun h => ?_⟩; rotate_left 1; (focus (exfalso; (first | (with_reducible (cases h; done)) | (revert h; simp; done) | (revert h; simp; omega) | (revert h; simp [*]; done)))); clear h) | (refine ⟨fun h => ?_, fun h => ?_⟩; (focus (exfalso; (first | (with_reducible (cases h; done)) | (revert h; simp; done) | (revert h; simp; omega) | (revert h; simp [*]; done)))); clear h))
  refine ⟨_, Ent.refl _, ?_, rfl⟩
  rw [if_pos (by exact_mod_cast c5)]; rfl

set_option maxRecDepth 100000 in
theorem MerkleSee_law (R : Rd) (hG : ShaG R) (v0 v1 v2 v3 v4 v5 : Value) (s0 : SeenV R .str v0) (s1 : SeenV R (.int .i64) v1) (s2 : SeenV R (.int .i64) v2) (s3 : SeenV R (.int .i64) v3) (s4 : SeenV R (.sl 1 (.int .u8)) v4) (s5 : SeenV R (.sl 1 .str) v5) :
    Fn Tryd.prog 11 [v0, v1, v2, v3, v4, v5] [] R (fun v _ => v = .bool true) := by
  obtain ⟨root, rfl, hroot⟩ := s0.str
  obtain ⟨n, rfl, _, hn⟩ := s1.i64
  obtain ⟨size, rfl, _, hsz⟩ := s2.i64
  obtain ⟨block, rfl, hb0, _⟩ := s3.i64
  obtain ⟨x, A, cap, rfl, hx, hcap, hxs⟩ := s4.bytesCap
  obtain ⟨l, hl, hs, _⟩ := s5.strings
  have hs' := hs
  obtain ⟨B, cap2, rfl, hc, hsr⟩ := hs
  have hML := maxLen_eq
  refine fn_of_vc mixed tabOk Tryd.func11 rfl (by kernel_rfl) (Nat.le_of_ble_eq_true rfl) ?_
  refine ⟨[], _, awake_ok _ (hG.rh _), ?_⟩
  rintro _ _ ⟨rfl, rfl⟩
  by_cases c1 : (64 : Int) < root.length
  · repeat (first | (refine ⟨fun h => ?_, fun h => ?_⟩; rotate_left 1; (focus (exfalso; (first | (with_reducible (cases h; done)) | (revert h; simp; done) | (revert h; simp; omega) | (revert h; simp [*]; done)))); clear h) | (refine ⟨fun h => ?_, fun h => ?_⟩; (focus (exfalso; (first | (with_reducible (cases h; done)) | (revert h; simp; done) | (revert h; simp; omega) | (revert h; simp [*]; done)))); clear h))
    refine ⟨[], _, awake_ok _ (hG.rh _), ?_⟩
    rintro _ _ ⟨rfl, rfl⟩
    exact ⟨_, Ent.refl _, rfl⟩
  by_cases c2 : (100 : Int) < x.length
  · repeat (first | (refine ⟨fun h => ?_, fun h => ?_⟩; rotate_left 1; (focus (exfalso; (first | (with_reducible (cases h; done)) | (revert h; simp; done) | (revert h; simp; omega) | (revert h; simp [*]; done)))); clear h) | (refine ⟨fun h => ?_, fun h => ?_⟩; (focus (exfalso; (first | (with_reducible (cases h; done)) | (revert h; simp; done) | (revert h; simp; omega) | (revert h; simp [*]; done)))); clear h))
    refine ⟨[], _, awake_ok _ (hG.rh _), ?_⟩
    rintro _ _ ⟨rfl, rfl⟩
    exact ⟨_, Ent.refl _, rfl⟩
  repeat (first | (refine ⟨fun h => ?_, fun h => ?_⟩; rotate_left 1; (focus (exfalso; (first | (with_reducible (cases h; done)) | (revert h; simp; done) | (revert h; simp; omega) | (revert h; simp [*]; done)))); clear h) | (refine ⟨fun h => ?_, fun h => ?_⟩; (focus (exfalso; (first | (with_reducible (cases h; done)) | (revert h; simp; done) | (revert h; simp; omega) | (revert h; simp [*]; done)))); clear h))
  refine ⟨[], _, few_ok _ l _ (by omega) (hsr.rh _), ?_⟩
  rintro _ _ ⟨rfl, rfl⟩
  cases c3 : fewB l
  · repeat (first | (refine ⟨fun h => ?_, fun h => ?_⟩; rotate_left 1; (focus (exfalso; (first | (with_reducible (cases h; done)) | (revert h; simp; done) | (revert h; simp; omega) | (revert h; simp [*]; done)))); clear h) | (refine ⟨fun h => ?_, fun h => ?_⟩; (focus (exfalso; (first | (with_reducible (cases h; done)) | (revert h; simp; done) | (revert h; simp; omega) | (revert h; simp [*]; done)))); clear h))
    refine ⟨[], _, awake_ok _ (hG.rh _), ?_⟩
    rintro _ _ ⟨rfl, rfl⟩
    exact ⟨_, Ent.refl _, rfl⟩
  obtain ⟨hsm, _, _⟩ := fewB_small c3
  repeat (first | (refine ⟨fun h => ?_, fun h => ?_⟩; rotate_left 1; (focus (exfalso; (first | (with_reducible (cases h; done)) | (revert h; simp; done) | (revert h; simp; omega) | (revert h; simp [*]; done)))); clear h) | (refine ⟨fun h => ?_, fun h => ?_⟩; (focus (exfalso; (first | (with_reducible (cases h; done)) | (revert h; simp; done) | (revert h; simp; omega) | (revert h; simp [*]; done)))); clear h))
  refine ⟨[], _, See_ok _ (hG.rh _) root n size block x A cap l _ hn hsz hb0 (by omega) hcap (hxs.rh _) hsm (hs'.rh _), ?_⟩
  rintro _ _ ⟨rfl, rfl⟩
  refine ⟨[], _, refSee_ok _ root n size block x A cap l _ hn hsz hb0 (by omega) hcap (hxs.rh _) hsm (hs'.rh _), ?_⟩
  rintro _ _ ⟨rfl, rfl⟩
  exact ⟨_, Ent.refl _, beq_self_value _⟩

end Go.Proofs.YtgbdfpfiolbhlaaDoor
