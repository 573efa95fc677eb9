/-
  Contracts: Consistent (package merkle and its reference), few, same.
-/
import Derived.Test.YtgnmbgbiajgpeaaDoorM1
namespace Go.Proofs.YtgnmbgbiajgpeaaDoor
open Go Go.RowKit
set_option linter.unusedVariables false

section
variable {old new : Str} {m n : Int} {proof : List Str}
theorem cB_neg (h : m < 0) : consistentB m n old new proof = false := by
  have : decide (0 ≤ m) = false := decide_eq_false (by omega)
  simp [consistentB, this]
theorem cB_gt (h : n < m) : consistentB m n old new proof = false := by
  have : decide (m ≤ n) = false := decide_eq_false (by omega)
  simp [consistentB, this]
theorem cB_old (h : ¬ old.length = 32) : consistentB m n old new proof = false := by simp [consistentB, h]
theorem cB_new (h : ¬ new.length = 32) : consistentB m n old new proof = false := by simp [consistentB, h]
theorem cB_proof (h : sumsB proof = false) : consistentB m n old new proof = false := by simp [consistentB, h]
theorem beq_dec (a b : Str) : (a == b) = decide (a = b) := by by_cases h : a = b <;> simp [h]
theorem cB_zero (h0 : 0 ≤ n) (h1 : old.length = 32) (h2 : new.length = 32) (h3 : sumsB proof = true) : consistentB 0 n old new proof = (decide (proof = []) && decide (old = sha []) && (decide (0 < n) || decide (new = old))) := by
  have e2 : decide ((0 : Int) ≤ n) = true := decide_eq_true h0
  have e3 : proof.isEmpty = decide (proof = []) := by cases proof <;> simp
  simp only [consistentB, e2, h1, h2, h3, if_true, beq_dec, e3]
  simp
theorem cB_up {m n : Nat} (hm : 1 ≤ m) (h : m ≤ n) (h1 : old.length = 32) (h2 : new.length = 32) (h3 : sumsB proof = true) : consistentB m n old new proof =
    ((bothR old proof.reverse m n true).2.2 && decide ((bothR old proof.reverse m n true).1 = old) && decide ((bothR old proof.reverse m n true).2.1 = new)) := by
  have e1 : decide ((0 : Int) ≤ m) = true := decide_eq_true (by omega)
  have e2 : decide ((m : Int) ≤ n) = true := decide_eq_true (by omega)
  have e4 : ¬ ((m : Int) = 0) := by omega
  simp only [consistentB, e1, e2, h1, h2, h3, if_neg e4, bothOf, Int.toNat_natCast, beq_dec]
  simp
end
theorem rootOf_nil : rootOf [] = sha [] := rootOf_zero rfl
theorem Ss.nil (R : Rd) : Ss R (.slice none 0 0) [] := ⟨none, 0, rfl, Nat.le_refl _, rfl, none, 0, rfl, fun j u h => by simp [SV] at h⟩
theorem Small.nil : Small [] := ⟨by simp, by simp⟩

/-! ### the law's helpers -/
def fewB (l : List Str) : Bool := (l.all fun s => decide (s.length ≤ 64)) && decide (l.length ≤ 20)
theorem fewB_small {l : List Str} (h : fewB l = true) : Small l ∧ l.length ≤ 20 ∧ ∀ s ∈ l, s.length ≤ 64 := by
  simp only [fewB, Bool.and_eq_true, List.all_eq_true, decide_eq_true_eq] at h
  exact ⟨⟨by omega, fun s hs => by have := h.1 s hs; omega⟩, h.2, h.1⟩

end Go.Proofs.YtgnmbgbiajgpeaaDoor

namespace Go.Proofs.YtgnmbgbiajgpeaaDoor
open Go Go.RowKit
set_option linter.unusedVariables false

theorem splitN2 : splitN 2 = 1 := by decide +kernel
theorem splitN3 : splitN 3 = 2 := by decide +kernel
section
variable (a b c : Str)
theorem root1 : rootOf [a] = a := by rw [rootOf_one rfl]; rfl
theorem root2 : rootOf [a, b] = nodeOf a b := by
  rw [rootOf_two (show 2 ≤ [a, b].length from Nat.le_refl _)]
  show nodeOf (rootOf (List.take (splitN 2) [a, b])) (rootOf (List.drop (splitN 2) [a, b])) = _
  rw [splitN2]
  show nodeOf (rootOf [a]) (rootOf [b]) = _
  rw [root1, root1]
theorem root3 : rootOf [a, b, c] = nodeOf (nodeOf a b) c := by
  rw [rootOf_two (show 2 ≤ [a, b, c].length from Nat.le_succ _)]
  show nodeOf (rootOf (List.take (splitN 3) [a, b, c])) (rootOf (List.drop (splitN 3) [a, b, c])) = _
  rw [splitN3]
  show nodeOf (rootOf [a, b]) (rootOf [c]) = _
  rw [root1, root2]
theorem path3 : pathOf [a, b, c] 1 = [a, c] := by
  have e1 : pathR [a, b] 1 = [a] := by
    rw [pathR_hi (show 2 ≤ [a, b].length from Nat.le_refl _) (show ¬ 1 < splitN 2 by rw [splitN2]; decide)]
    show rootOf (List.take (splitN 2) [a, b]) :: pathR (List.drop (splitN 2) [a, b]) (1 - splitN 2) = _
    rw [splitN2]
    show rootOf [a] :: pathR [b] 0 = _
    rw [root1, pathR_one (show [b].length ≤ 1 from Nat.le_refl _)]
  have e2 : pathR [a, b, c] 1 = [c, a] := by
    rw [pathR_lo (show 2 ≤ [a, b, c].length from Nat.le_succ _) (show 1 < splitN 3 by rw [splitN3]; decide)]
    show rootOf (List.drop (splitN 3) [a, b, c]) :: pathR (List.take (splitN 3) [a, b, c]) 1 = _
    rw [splitN3]
    show rootOf [c] :: pathR [a, b] 1 = _
    rw [root1, e1]
  rw [pathOf, e2]; rfl
theorem up3 : upR b [c, a] 1 3 = (nodeOf (nodeOf a b) c, true) := by
  have e1 : upR b [a] 1 2 = (nodeOf a b, true) := by
    rw [upR_hi b a [] (by decide) (show ¬ 1 < splitN 2 by rw [splitN2]; decide), splitN2]
    show (nodeOf a (upR b [] 0 1).1, (upR b [] 0 1).2) = _
    rw [upR_nil1]
  rw [upR_lo b c [a] (by decide) (show 1 < splitN 3 by rw [splitN3]; decide), splitN3, e1]
theorem both3 (old : Str) : bothR old [c] 2 3 true = (old, nodeOf old c, true) := by
  simp only [bothR, splitN3]
  rfl
theorem sums_of (l : List Str) (h : ∀ s ∈ l, s.length = 32) : sumsB l = true := by
  rw [sumsB, List.all_eq_true]; intro s hs; rw [h s hs]; rfl
end

end Go.Proofs.YtgnmbgbiajgpeaaDoor

namespace Go.Proofs.YtgnmbgbiajgpeaaDoor
open Go Go.RowKit
set_option linter.unusedVariables false

theorem SeenV.cap {R : Rd} {sz : Nat} {e : Shp} {A : Option Addr} {n cap : Nat} (h : SeenV R (.sl sz e) (.slice A n cap)) : n ≤ cap := by
  obtain ⟨h, _⟩ := h
  rcases h with h | ⟨a, n', cap', h, hnc, _⟩
  · simp only [Value.cells, List.cons.injEq, Value.slice.injEq, and_true] at h
    omega
  · simp only [Value.cells, List.cons.injEq, Value.slice.injEq, and_true] at h
    omega
theorem SV_flat (l : List Str) : l.flatMap (fun s => [Value.string ⟨⟨s⟩⟩]) = SV l := by
  induction l with
  | nil => rfl
  | cons x l ih => rw [List.flatMap_cons, ih]; rfl
theorem SeenV.strings {R : Rd} {v : Value} (h : SeenV R (.sl 1 .str) v) : ∃ l : List Str, l.length ≤ maxLen ∧ Ss R v l ∧ ∀ s ∈ l, s.length ≤ maxLen := by
  obtain ⟨l, hok, hl, hs⟩ := h.slice (fun s : Str => [Value.string ⟨⟨s⟩⟩]) (fun s => s.length ≤ maxLen) (fun _ _ => rfl) (fun xs _ hx => by
    obtain ⟨⟨⟨x⟩⟩, rfl, hw⟩ := hx
    exact ⟨x, hw, rfl⟩)
  rw [SV_flat] at hs
  obtain ⟨A, cap, rfl⟩ := SlR.slice hs
  exact ⟨l, hl, ⟨A, cap, rfl, h.cap, hs⟩, hok⟩
theorem SeenV.bytesCap {R : Rd} {v : Value} (h : SeenV R (.sl 1 (.int .u8)) v) : ∃ (l : List UInt8) (A : Option Addr) (cap : Nat), v = .slice A l.length cap ∧ l.length ≤ maxLen ∧ l.length ≤ cap ∧ BsR R v l := by
  obtain ⟨l, hl, hs⟩ := h.bytes
  obtain ⟨A, cap, rfl⟩ := hs.form
  exact ⟨l, A, cap, rfl, hl, h.cap, hs⟩
theorem SeenV.str {R : Rd} {v : Value} (h : SeenV R .str v) : ∃ s : Str, v = .string ⟨⟨s⟩⟩ ∧ s.length ≤ maxLen := by
  obtain ⟨⟨⟨s⟩⟩, rfl, hs⟩ := h.string
  exact ⟨s, rfl, hs⟩


theorem beq_self_value (b : Bool) : Value.bool (b == b) = .bool true := by cases b <;> rfl

end Go.Proofs.YtgnmbgbiajgpeaaDoor

namespace Go.Proofs.YtgnmbgbiajgpeaaDoor
open Go Go.RowKit
set_option linter.unusedVariables false

theorem quo_nat {a b : Nat} {x z : Int} (hx : x = (a : Int)) (ha : a ≤ 9223372036854775807) (hz : z = IntKind.i64.wrap (x.tdiv (b : Int))) : z = ((a / b : Nat) : Int) := by
  subst hx
  have e : ((a : Int)).tdiv (b : Int) = ((a / b : Nat) : Int) := (Int.ofNat_tdiv a b).symm
  have hd : a / b ≤ a := Nat.div_le_self a b
  rw [e] at hz
  generalize a / b = q at hz hd ⊢
  exact wr_i64 hz (by omega) (by omega)
theorem mul_nat {a b : Nat} {z : Int} (ha : a * b ≤ 9223372036854775807) (hz : z = IntKind.i64.wrap ((a : Int) * (b : Int))) : z = ((a * b : Nat) : Int) := by
  rw [← Int.natCast_mul] at hz
  exact wr_i64 hz (by omega) (by omega)

def countN (n size : Nat) : Nat := if n = 0 then 0 else (n - 1) / size + 1
theorem countN_le (n size : Nat) : countN n size ≤ n := by
  unfold countN
  have : (n - 1) / size ≤ n - 1 := Nat.div_le_self _ _
  split <;> omega

theorem count_ok (R : Rd) (n size : Nat) (hn : n ≤ 9223372036854775807) (hs : 1 ≤ size) : Fn Tryd.prog 69 [.int .i64 n, .int .i64 size] [] R (fun v h => v = .int .i64 (countN n size) ∧ h = []) := by
  refine fn_of_vc mixed tabOk Tryd.func69 rfl (by kernel_rfl) (Nat.le_of_ble_eq_true rfl) ?_
  refine ⟨fun hb => ?_, fun hb => ?_⟩
  · replace hb := of_decide_eq_true hb
    refine ⟨_, Ent.refl _, ?_, rfl⟩
    rw [countN, if_pos (by omega)]; rfl
  · replace hb := of_decide_eq_false hb
    have hn0 : n ≠ 0 := by omega
    clear hb
    have hd : (n - 1) / size ≤ n - 1 := Nat.div_le_self _ _
    (intro z hz; obtain rfl : z = ((n - 1 : Nat) : Int) := (by first | (rw [IntKind.wrap_i64] at hz; omega) | (rw [IntKind.wrap_u64] at hz; omega) | omega); clear hz)
    refine ⟨by omega, ?_⟩
    intro z hz
    obtain rfl := quo_nat rfl (by omega) hz
    clear hz
    rw [countN, if_neg hn0]
    generalize (n - 1) / size = q at hd ⊢
    (intro z hz; obtain rfl : z = ((q + 1 : Nat) : Int) := (by first | (rw [IntKind.wrap_i64] at hz; omega) | (rw [IntKind.wrap_u64] at hz; omega) | omega); clear hz)
    exact ⟨_, Ent.refl _, rfl, rfl⟩

theorem extent_ok (R : Rd) (n size block : Nat) (hn : n ≤ 9223372036854775807) (hb : block * size ≤ n) (hs : size ≤ 9223372036854775807) : Fn Tryd.prog 70 [.int .i64 n, .int .i64 size, .int .i64 block] [] R (fun v h => v = .int .i64 (min size (n - block * size) : Nat) ∧ h = []) := by
  refine fn_of_vc mixed tabOk Tryd.func70 rfl (by kernel_rfl) (Nat.le_of_ble_eq_true rfl) ?_
  intro z hz
  obtain rfl := mul_nat (by omega) hz
  clear hz
  generalize block * size = q at *
  (intro z hz; obtain rfl : z = ((n - q : Nat) : Int) := (by first | (rw [IntKind.wrap_i64] at hz; omega) | (rw [IntKind.wrap_u64] at hz; omega) | omega); clear hz)
  (intro z hz; obtain rfl : z = ((min size (n - q) : Nat) : Int) := (by first | (rw [IntKind.wrap_i64] at hz; omega) | (rw [IntKind.wrap_u64] at hz; omega) | omega); clear hz)
  exact ⟨_, Ent.refl _, rfl, rfl⟩

theorem block_le {n size block : Nat} (h1 : 1 ≤ n) (hb : block ≤ (n - 1) / size) : block * size ≤ n - 1 := Nat.le_trans (Nat.mul_le_mul_right _ hb) (Nat.div_mul_le_self _ _)

def seeB (root : Str) (n size block : Int) (x : Str) (path : List Str) : Bool :=
  if 1 ≤ n ∧ 1 ≤ size ∧ 0 ≤ block ∧ block ≤ (((n.toNat - 1) / size.toNat : Nat) : Int) then
    (if x.length = min size.toNat (n.toNat - block.toNat * size.toNat) then verifyB (leafOf x) block (((n.toNat - 1) / size.toNat + 1 : Nat) : Int) path root else false) else false
theorem seeB_no {root : Str} {n size block : Int} {x : Str} {path : List Str} (h : ¬ (1 ≤ n ∧ 1 ≤ size ∧ 0 ≤ block ∧ block ≤ (((n.toNat - 1) / size.toNat : Nat) : Int))) : seeB root n size block x path = false := if_neg h
theorem seeB_nat {root : Str} {n size block : Nat} {x : Str} {path : List Str} (h1 : 1 ≤ n) (h2 : 1 ≤ size) (h3 : block ≤ (n - 1) / size) :
    seeB root n size block x path = if x.length = min size (n - block * size) then verifyB (leafOf x) block (((n - 1) / size + 1 : Nat) : Int) path root else false := by
  rw [seeB, if_pos ⟨by omega, by omega, by omega, by simp only [Int.toNat_natCast]; omega⟩]
  simp only [Int.toNat_natCast]

set_option maxRecDepth 100000 in
theorem See_okL (R : Rd) (hG : ShaG R) (root : Str) (n size block : Int) (x : Str) (A : Option Addr) (cap : Nat) (path : List Str) (v5 : Value) (hn : n ≤ 9223372036854775807) (hsz : size ≤ 9223372036854775807) (hb0 : -9223372036854775808 ≤ block)
    (hx : x.length ≤ 1000000000) (hcap : x.length ≤ cap) (hxs : BsR R (.slice A x.length cap) x) (hsm : path.length ≤ 1000000000) (hs : Ss R v5 path) :
    Fn Tryd.prog 50 [.string ⟨⟨root⟩⟩, .int .i64 n, .int .i64 size, .int .i64 block, .slice A x.length cap, v5] [] R (fun v h => v = .bool (seeB root n size block x path) ∧ h = []) := by
  have hs' := hs
  obtain ⟨B, cap2, rfl, hc, hsr⟩ := hs
  refine fn_of_vc mixed tabOk Tryd.func50 rfl (by kernel_rfl) (Nat.le_of_ble_eq_true rfl) ?_
  by_cases c1 : n < 1
  · repeat (first | (refine ⟨fun h => ?_, fun h => ?_⟩; rotate_left 1; (focus (exfalso; (first | (with_reducible (cases h; done)) | (revert h; simp; done) | (revert h; simp; omega) | (revert h; simp [*]; done)))); clear h) | (refine ⟨fun h => ?_, fun h => ?_⟩; (focus (exfalso; (first | (with_reducible (cases h; done)) | (revert h; simp; done) | (revert h; simp; omega) | (revert h; simp [*]; done)))); clear h))
    refine ⟨_, Ent.refl _, ?_, rfl⟩
    rw [seeB_no (by omega)]; rfl
  by_cases c2 : size < 1
  · repeat (first | (refine ⟨fun h => ?_, fun h => ?_⟩; rotate_left 1; (focus (exfalso; (first | (with_reducible (cases h; done)) | (revert h; simp; done) | (revert h; simp; omega) | (revert h; simp [*]; done)))); clear h) | (refine ⟨fun h => ?_, fun h => ?_⟩; (focus (exfalso; (first | (with_reducible (cases h; done)) | (revert h; simp; done) | (revert h; simp; omega) | (revert h; simp [*]; done)))); clear h))
    refine ⟨_, Ent.refl _, ?_, rfl⟩
    rw [seeB_no (by omega)]; rfl
  by_cases c3 : block < 0
  · repeat (first | (refine ⟨fun h => ?_, fun h => ?_⟩; rotate_left 1; (focus (exfalso; (first | (with_reducible (cases h; done)) | (revert h; simp; done) | (revert h; simp; omega) | (revert h; simp [*]; done)))); clear h) | (refine ⟨fun h => ?_, fun h => ?_⟩; (focus (exfalso; (first | (with_reducible (cases h; done)) | (revert h; simp; done) | (revert h; simp; omega) | (revert h; simp [*]; done)))); clear h))
    refine ⟨_, Ent.refl _, ?_, rfl⟩
    rw [seeB_no (by omega)]; rfl
  obtain ⟨n, rfl⟩ := Int.eq_ofNat_of_zero_le (show 0 ≤ n by omega)
  obtain ⟨size, rfl⟩ := Int.eq_ofNat_of_zero_le (show 0 ≤ size by omega)
  obtain ⟨block, rfl⟩ := Int.eq_ofNat_of_zero_le (show 0 ≤ block by omega)
  have hcn : countN n size = (n - 1) / size + 1 := by rw [countN, if_neg (by omega)]
  have hcl := countN_le n size
  repeat (first | (refine ⟨fun h => ?_, fun h => ?_⟩; rotate_left 1; (focus (exfalso; (first | (with_reducible (cases h; done)) | (revert h; simp; done) | (revert h; simp; omega) | (revert h; simp [*]; done)))); clear h) | (refine ⟨fun h => ?_, fun h => ?_⟩; (focus (exfalso; (first | (with_reducible (cases h; done)) | (revert h; simp; done) | (revert h; simp; omega) | (revert h; simp [*]; done)))); clear h))
  refine ⟨[], _, count_ok _ n size (by omega) (by omega), ?_⟩
  rintro _ _ ⟨rfl, rfl⟩
  by_cases c4 : (countN n size : Int) ≤ block
  · repeat (first | (refine ⟨fun h => ?_, fun h => ?_⟩; rotate_left 1; (focus (exfalso; (first | (with_reducible (cases h; done)) | (revert h; simp; done) | (revert h; simp; omega) | (revert h; simp [*]; done)))); clear h) | (refine ⟨fun h => ?_, fun h => ?_⟩; (focus (exfalso; (first | (with_reducible (cases h; done)) | (revert h; simp; done) | (revert h; simp; omega) | (revert h; simp [*]; done)))); clear h))
    refine ⟨_, Ent.refl _, ?_, rfl⟩
    rw [seeB_no (by simp only [Int.toNat_natCast]; omega)]; rfl
  have hbl := block_le (n := n) (size := size) (block := block) (by omega) (by omega)
  repeat (first | (refine ⟨fun h => ?_, fun h => ?_⟩; rotate_left 1; (focus (exfalso; (first | (with_reducible (cases h; done)) | (revert h; simp; done) | (revert h; simp; omega) | (revert h; simp [*]; done)))); clear h) | (refine ⟨fun h => ?_, fun h => ?_⟩; (focus (exfalso; (first | (with_reducible (cases h; done)) | (revert h; simp; done) | (revert h; simp; omega) | (revert h; simp [*]; done)))); clear h))
  refine ⟨[], _, extent_ok _ n size block (by omega) (by omega) (by omega), ?_⟩
  rintro _ _ ⟨rfl, rfl⟩
  rw [seeB_nat (by omega) (by omega) (by omega)]
  by_cases c5 : (x.length : Int) = (min size (n - block * size) : Nat)
  case neg =>
    repeat (first | (refine ⟨fun h => ?_, fun h => ?_⟩; rotate_left 1; (focus (exfalso; (first | (with_reducible (cases h; done)) | (revert h; simp; done) | (revert h; simp; omega) | (revert h; simp [*]; done)))); clear h) | (refine ⟨fun h => ?_, fun h => ?_⟩; (focus (exfalso; (first | (with_reducible (cases h; done)) | (revert h; simp; done) | (revert h; simp; omega) | (revert h; simp [*]; done)))); clear h))
    refine ⟨_, Ent.refl _, ?_, rfl⟩
    rw [if_neg (by intro h; exact c5 (by rw [h]))]; rfl
  repeat (first | (refine ⟨fun h => ?_, fun h => ?_⟩; rotate_left 1; (focus (exfalso; (first | (with_reducible (cases h; done)) | (revert h; simp; done) | (revert h; simp; omega) | (revert h; simp [*]; done)))); clear h) | (refine ⟨fun h => ?_, fun h => ?_⟩; (focus (exfalso; (first | (with_reducible (cases h; done)) | (revert h; simp; done) | (revert h; simp; omega) | (revert h; simp [*]; done)))); clear h))
  refine ⟨[], _, Leaf_ok _ (hG.rh _) x A cap (by omega) hcap (hxs.rh _), ?_⟩
  rintro _ _ ⟨rfl, rfl⟩
  refine ⟨[], _, count_ok _ n size (by omega) (by omega), ?_⟩
  rintro _ _ ⟨rfl, rfl⟩
  refine ⟨[], _, Verify_okL _ (hG.rh _) (leafOf x) root block (countN n size) path _ (by omega) (by omega) (by rw [leafOf_length]; omega) hsm (hs'.rh _), ?_⟩
  rintro _ _ ⟨rfl, rfl⟩
  refine ⟨_, Ent.refl _, ?_, rfl⟩
  rw [if_pos (by exact_mod_cast c5), hcn]; rfl
theorem See_ok (R : Rd) (hG : ShaG R) (root : Str) (n size block : Int) (x : Str) (A : Option Addr) (cap : Nat) (path : List Str) (v5 : Value) (hn : n ≤ 9223372036854775807) (hsz : size ≤ 9223372036854775807) (hb0 : -9223372036854775808 ≤ block)
    (hx : x.length ≤ 1000000000) (hcap : x.length ≤ cap) (hxs : BsR R (.slice A x.length cap) x) (hsm : Small path) (hs : Ss R v5 path) :
    Fn Tryd.prog 50 [.string ⟨⟨root⟩⟩, .int .i64 n, .int .i64 size, .int .i64 block, .slice A x.length cap, v5] [] R (fun v h => v = .bool (seeB root n size block x path) ∧ h = []) := See_okL R hG root n size block x A cap path v5 hn hsz hb0 hx hcap hxs hsm.1 hs

end Go.Proofs.YtgnmbgbiajgpeaaDoor

namespace Go.Proofs.YtgnmbgbiajgpeaaDoor
open Go Go.RowKit
set_option linter.unusedVariables false

theorem getD_take {l : List Str} {i k : Nat} (h : i < k) : (l.take k).getD i [] = l.getD i [] := by
  rw [List.getD_eq_getElem?_getD, List.getD_eq_getElem?_getD, List.getElem?_take, if_pos h]
theorem getD_drop {l : List Str} {i k : Nat} (h : k ≤ i) : (l.drop k).getD (i - k) [] = l.getD i [] := by
  rw [List.getD_eq_getElem?_getD, List.getD_eq_getElem?_getD, List.getElem?_drop]
  congr 2; omega

/-- The path of a leaf is accepted with the root. -/
theorem up_path : ∀ (n : Nat) (l : List Str) (i : Nat), l.length = n → i < n → upR (l.getD i []) (pathR l i) i n = (rootOf l, true) := by
  intro n
  induction n using Nat.strongRecOn with
  | _ n ih =>
  intro l i hn hi
  by_cases h1 : n = 1
  · subst h1
    obtain rfl : i = 0 := by omega
    rw [pathR_one (by omega), upR_nil1, rootOf_one hn]
  have h2 : 2 ≤ l.length := by omega
  have hk := splitN_lt h2
  have hk0 := splitN_pos l.length
  rw [hn] at hk hk0
  by_cases c : i < splitN n
  · rw [pathR_lo h2 (by rw [hn]; exact c), upR_lo _ _ _ h1 c, rootOf_two h2, hn]
    have := ih (splitN n) hk (l.take (splitN n)) i (by rw [List.length_take]; omega) c
    rw [getD_take c] at this
    rw [this]
  · rw [pathR_hi h2 (by rw [hn]; exact c), upR_hi _ _ _ h1 c, rootOf_two h2, hn]
    have := ih (n - splitN n) (by omega) (l.drop (splitN n)) (i - splitN n) (by rw [List.length_drop, hn]) (by omega)
    rw [getD_drop (by omega)] at this
    rw [this]

theorem blen_split {n : Nat} (h : 2 ≤ n) : blen (n - 1) = Nat.log2 (n - 1) + 1 := by
  rw [blen, if_neg (by omega)]
/-- A path has no more elements than the last index has bits. -/
theorem pathR_bits : ∀ (n : Nat) (l : List Str) (i : Nat), l.length = n → (pathR l i).length ≤ blen (n - 1) := by
  intro n
  induction n using Nat.strongRecOn with
  | _ n ih =>
  intro l i hn
  by_cases h1 : n ≤ 1
  · rw [pathR_one (by omega)]; exact Nat.zero_le _
  have h2 : 2 ≤ l.length := by omega
  have hk := splitN_lt h2
  have hk0 := splitN_pos l.length
  have hk1 := splitN_ge h2
  rw [hn] at hk hk0 hk1
  rw [blen_split (by omega)]
  by_cases c : i < splitN n
  · rw [pathR_lo h2 (by rw [hn]; exact c), hn, List.length_cons]
    have := ih (splitN n) hk (l.take (splitN n)) i (by rw [List.length_take]; omega)
    have h3 : blen (splitN n - 1) ≤ Nat.log2 (n - 1) := blen_lt (by unfold splitN at *; omega)
    omega
  · rw [pathR_hi h2 (by rw [hn]; exact c), hn, List.length_cons]
    have := ih (n - splitN n) (by omega) (l.drop (splitN n)) (i - splitN n) (by rw [List.length_drop, hn])
    have h3 : blen (n - splitN n - 1) ≤ Nat.log2 (n - 1) := blen_lt (by unfold splitN at *; omega)
    omega

theorem sumsB_iff {l : List Str} : sumsB l = true ↔ ∀ s ∈ l, s.length = 32 := by simp [sumsB]
theorem sumsB_takeK {l : List Str} (h : sumsB l = true) (k : Nat) : sumsB (l.take k) = true := sumsB_iff.2 fun s hs => sumsB_iff.1 h s (List.mem_of_mem_take hs)
theorem sumsB_dropK {l : List Str} (h : sumsB l = true) (k : Nat) : sumsB (l.drop k) = true := sumsB_iff.2 fun s hs => sumsB_iff.1 h s (List.mem_of_mem_drop hs)
theorem root_sum {l : List Str} (h : sumsB l = true) : (rootOf l).length = 32 := by
  by_cases h1 : l.length = 1
  · rw [rootOf_one h1, List.getD_eq_getElem?_getD, List.getElem?_eq_getElem (by omega)]
    exact sumsB_iff.1 h _ (List.getElem_mem _)
  · exact rootOf_length h1
theorem pathR_sums : ∀ (n : Nat) (l : List Str) (i : Nat), l.length = n → sumsB l = true → sumsB (pathR l i) = true := by
  intro n
  induction n using Nat.strongRecOn with
  | _ n ih =>
  intro l i hn hl
  by_cases h1 : n ≤ 1
  · rw [pathR_one (by omega)]; rfl
  have h2 : 2 ≤ l.length := by omega
  have hk := splitN_lt h2
  have hk0 := splitN_pos l.length
  by_cases c : i < splitN l.length
  · rw [pathR_lo h2 c]
    have := ih (splitN l.length) (by omega) (l.take (splitN l.length)) i (by rw [List.length_take]; omega) (sumsB_takeK hl _)
    rw [sumsB_iff] at this ⊢
    intro s hs
    rcases List.mem_cons.1 hs with rfl | hs
    · exact root_sum (sumsB_dropK hl _)
    · exact this s hs
  · rw [pathR_hi h2 c]
    have := ih (l.length - splitN l.length) (by omega) (l.drop (splitN l.length)) (i - splitN l.length) (by rw [List.length_drop]) (sumsB_dropK hl _)
    rw [sumsB_iff] at this ⊢
    intro s hs
    rcases List.mem_cons.1 hs with rfl | hs
    · exact root_sum (sumsB_takeK hl _)
    · exact this s hs
theorem sumsB_reverse {l : List Str} : sumsB l.reverse = sumsB l := by simp [sumsB]

/-- The law MerkleProves. -/
theorem proves {l : List Str} {i : Nat} (hi : i < l.length) (hl : sumsB l = true) : verifyB (l.getD i []) i l.length (pathOf l i) (rootOf l) = true := by
  have h1 : (l.getD i []).length = 32 := by
    rw [List.getD_eq_getElem?_getD, List.getElem?_eq_getElem hi]
    exact sumsB_iff.1 hl _ (List.getElem_mem _)
  have e1 : decide ((0 : Int) ≤ i) = true := decide_eq_true (by omega)
  have e2 : decide ((i : Int) < l.length) = true := decide_eq_true (by omega)
  have e3 : sumsB (pathOf l i) = true := by rw [pathOf, sumsB_reverse]; exact pathR_sums _ l i rfl hl
  rw [verifyB, e1, e2, h1, root_sum hl, e3]
  simp only [upOf, Int.toNat_natCast, pathOf, List.reverse_reverse, up_path _ l i rfl hi]
  simp

/-! ### what is accepted -/
def collB (a b : Str) : Bool := decide (a ≠ b) && decide (sha a = sha b)
theorem collB_true {a b : Str} (h : a ≠ b) (hs : sha a = sha b) : collB a b = true := by rw [collB, decide_eq_true h, decide_eq_true hs]; rfl
/-- The root that results from a leaf (recompute). -/
def recR (leaf : Str) : List Str → Nat → Nat → Str
  | [], _, _ => leaf
  | last :: rest, i, n => if n = 1 then leaf else
    if i < splitN n then nodeOf (recR leaf rest i (splitN n)) last else nodeOf last (recR leaf rest (i - splitN n) (n - splitN n))
theorem recR_up {leaf : Str} : ∀ (rp : List Str) (i n : Nat), (upR leaf rp i n).2 = true → recR leaf rp i n = (upR leaf rp i n).1
  | [], i, n => by
    intro h
    by_cases h1 : n = 1
    · subst h1; rw [upR_nil1]; rfl
    · rw [upR_niln _ _ h1] at h; cases h
  | last :: rest, i, n => by
    intro h
    by_cases h1 : n = 1
    · subst h1; rw [upR_one] at h; cases h
    by_cases c : i < splitN n
    · rw [upR_lo _ _ _ h1 c] at h ⊢
      rw [recR, if_neg h1, if_pos c, recR_up rest _ _ h]
    · rw [upR_hi _ _ _ h1 c] at h ⊢
      rw [recR, if_neg h1, if_neg c, recR_up rest _ _ h]
theorem recR_len {leaf : Str} (hl : leaf.length ≤ 1000000) : ∀ (rp : List Str) (i n : Nat), (recR leaf rp i n).length ≤ 1000000
  | [], i, n => hl
  | last :: rest, i, n => by
    unfold recR
    split
    · exact hl
    · split
      · rw [nodeOf_length]; omega
      · rw [nodeOf_length]; omega

def reachR (leaf : Str) : List Str → List Str → Nat → Bool
  | [], l, i => decide (leaf = l.getD 0 [])
  | last :: rest, l, i => if l.length = 1 then decide (leaf = l.getD 0 []) else
    if i < splitN l.length then
      (if 1 :: (recR leaf rest i (splitN l.length) ++ last) = 1 :: (rootOf (l.take (splitN l.length)) ++ rootOf (l.drop (splitN l.length))) then reachR leaf rest (l.take (splitN l.length)) i
       else collB (1 :: (recR leaf rest i (splitN l.length) ++ last)) (1 :: (rootOf (l.take (splitN l.length)) ++ rootOf (l.drop (splitN l.length)))))
    else
      (if 1 :: (last ++ recR leaf rest (i - splitN l.length) (l.length - splitN l.length)) = 1 :: (rootOf (l.take (splitN l.length)) ++ rootOf (l.drop (splitN l.length))) then reachR leaf rest (l.drop (splitN l.length)) (i - splitN l.length)
       else collB (1 :: (last ++ recR leaf rest (i - splitN l.length) (l.length - splitN l.length))) (1 :: (rootOf (l.take (splitN l.length)) ++ rootOf (l.drop (splitN l.length)))))

theorem app_left {a b c d : Str} (h : a ++ b = c ++ d) (hl : b.length = d.length) : a = c ∧ b = d := by
  have hl2 : a.length = c.length := by have := congrArg List.length h; simp only [List.length_append] at this; omega
  exact List.append_inj h hl2

/-- What is accepted has as many elements as the path. -/
theorem up_length : ∀ (rp : List Str) (leaf : Str) (l : List Str) (i : Nat), i < l.length → (upR leaf rp i l.length).2 = true → rp.length = (pathR l i).length
  | [], leaf, l, i => by
    intro hi h
    by_cases h1 : l.length = 1
    · rw [pathR_one (by omega)]
    · rw [upR_niln _ _ h1] at h; cases h
  | last :: rest, leaf, l, i => by
    intro hi h
    by_cases h1 : l.length = 1
    · rw [h1, upR_one] at h; cases h
    have h2 : 2 ≤ l.length := by omega
    have hk := splitN_lt h2
    by_cases c : i < splitN l.length
    · rw [upR_lo _ _ _ h1 c] at h
      rw [pathR_lo h2 c, List.length_cons, List.length_cons, up_length rest leaf (l.take (splitN l.length)) i (by rw [List.length_take]; omega) (by rw [List.length_take, Nat.min_eq_left (by omega)]; exact h)]
    · rw [upR_hi _ _ _ h1 c] at h
      rw [pathR_hi h2 c, List.length_cons, List.length_cons, up_length rest leaf (l.drop (splitN l.length)) (i - splitN l.length) (by rw [List.length_drop]; omega) (by rw [List.length_drop]; exact h)]

theorem sound : ∀ (rp : List Str) (leaf : Str) (l : List Str) (i : Nat), i < l.length → sumsB l = true → sumsB rp = true → upR leaf rp i l.length = (rootOf l, true) → reachR leaf rp l i = true
  | [], leaf, l, i => by
    intro hi hl hr h
    by_cases h1 : l.length = 1
    · rw [h1, upR_nil1, rootOf_one h1] at h
      exact decide_eq_true (congrArg Prod.fst h)
    · rw [upR_niln _ _ h1] at h; cases congrArg Prod.snd h
  | last :: rest, leaf, l, i => by
    intro hi hl hr h
    by_cases h1 : l.length = 1
    · rw [h1, upR_one] at h; cases congrArg Prod.snd h
    have h2 : 2 ≤ l.length := by omega
    have hk := splitN_lt h2
    have hlast : last.length = 32 := sumsB_iff.1 hr _ (List.mem_cons_self ..)
    have hrest : sumsB rest = true := sumsB_iff.2 fun s hs => sumsB_iff.1 hr s (List.mem_cons_of_mem _ hs)
    by_cases c : i < splitN l.length
    · rw [upR_lo _ _ _ h1 c] at h
      have ht : (upR leaf rest i (splitN l.length)).2 = true := congrArg Prod.snd h
      have hn : nodeOf (upR leaf rest i (splitN l.length)).1 last = rootOf l := congrArg Prod.fst h
      rw [rootOf_two h2] at hn
      rw [reachR, if_neg h1, if_pos c, recR_up _ _ _ ht]
      split
      · rename_i e
        have e2 := (app_left (List.cons.inj e).2 (by rw [hlast, root_sum (sumsB_dropK hl _)])).1
        refine sound rest leaf (l.take (splitN l.length)) i (by rw [List.length_take]; omega) (sumsB_takeK hl _) hrest ?_
        rw [List.length_take, Nat.min_eq_left (by omega), ← e2, ← ht]
      · rename_i e
        exact collB_true e hn
    · rw [upR_hi _ _ _ h1 c] at h
      have ht : (upR leaf rest (i - splitN l.length) (l.length - splitN l.length)).2 = true := congrArg Prod.snd h
      have hn : nodeOf last (upR leaf rest (i - splitN l.length) (l.length - splitN l.length)).1 = rootOf l := congrArg Prod.fst h
      rw [rootOf_two h2] at hn
      rw [reachR, if_neg h1, if_neg c, recR_up _ _ _ ht]
      split
      · rename_i e
        have e2 := (List.append_inj (List.cons.inj e).2 (by rw [hlast, root_sum (sumsB_takeK hl _)])).2
        refine sound rest leaf (l.drop (splitN l.length)) (i - splitN l.length) (by rw [List.length_drop]; omega) (sumsB_dropK hl _) hrest ?_
        rw [List.length_drop, ← e2, ← ht]
      · rename_i e
        exact collB_true e hn

/-! ### two leaves with one path -/
def meetR (a b : Str) : List Str → Nat → Nat → Bool
  | [], _, _ => false
  | last :: rest, i, n => if n = 1 then false else
    if i < splitN n then meetR a b rest i (splitN n) || collB (1 :: (recR a rest i (splitN n) ++ last)) (1 :: (recR b rest i (splitN n) ++ last))
    else meetR a b rest (i - splitN n) (n - splitN n) || collB (1 :: (last ++ recR a rest (i - splitN n) (n - splitN n))) (1 :: (last ++ recR b rest (i - splitN n) (n - splitN n)))
theorem meets : ∀ (rp : List Str) (a b r : Str) (i n : Nat), a ≠ b → upR a rp i n = (r, true) → upR b rp i n = (r, true) → meetR a b rp i n = true
  | [], a, b, r, i, n => by
    intro hab ha hb
    by_cases h1 : n = 1
    · subst h1
      rw [upR_nil1] at ha hb
      exact absurd ((congrArg Prod.fst ha).trans (congrArg Prod.fst hb).symm) hab
    · rw [upR_niln _ _ h1] at ha; cases congrArg Prod.snd ha
  | last :: rest, a, b, r, i, n => by
    intro hab ha hb
    by_cases h1 : n = 1
    · subst h1; rw [upR_one] at ha; cases congrArg Prod.snd ha
    by_cases c : i < splitN n
    · rw [upR_lo _ _ _ h1 c] at ha hb
      have ta : (upR a rest i (splitN n)).2 = true := congrArg Prod.snd ha
      have tb : (upR b rest i (splitN n)).2 = true := congrArg Prod.snd hb
      have na : nodeOf (upR a rest i (splitN n)).1 last = r := congrArg Prod.fst ha
      have nb : nodeOf (upR b rest i (splitN n)).1 last = r := congrArg Prod.fst hb
      rw [meetR, if_neg h1, if_pos c, recR_up _ _ _ ta, recR_up _ _ _ tb]
      by_cases e : (upR a rest i (splitN n)).1 = (upR b rest i (splitN n)).1
      · rw [meets rest a b (upR a rest i (splitN n)).1 i (splitN n) hab (by rw [← ta]) (by rw [e, ← tb]), Bool.true_or]
      · rw [collB_true (fun h => e (List.append_cancel_right (List.cons.inj h).2)) (na.trans nb.symm), Bool.or_true]
    · rw [upR_hi _ _ _ h1 c] at ha hb
      have ta : (upR a rest (i - splitN n) (n - splitN n)).2 = true := congrArg Prod.snd ha
      have tb : (upR b rest (i - splitN n) (n - splitN n)).2 = true := congrArg Prod.snd hb
      have na : nodeOf last (upR a rest (i - splitN n) (n - splitN n)).1 = r := congrArg Prod.fst ha
      have nb : nodeOf last (upR b rest (i - splitN n) (n - splitN n)).1 = r := congrArg Prod.fst hb
      rw [meetR, if_neg h1, if_neg c, recR_up _ _ _ ta, recR_up _ _ _ tb]
      by_cases e : (upR a rest (i - splitN n) (n - splitN n)).1 = (upR b rest (i - splitN n) (n - splitN n)).1
      · rw [meets rest a b (upR a rest (i - splitN n) (n - splitN n)).1 (i - splitN n) (n - splitN n) hab (by rw [← ta]) (by rw [e, ← tb]), Bool.true_or]
      · rw [collB_true (fun h => e (List.append_cancel_left (List.cons.inj h).2)) (na.trans nb.symm), Bool.or_true]

end Go.Proofs.YtgnmbgbiajgpeaaDoor

namespace Go.Proofs.YtgnmbgbiajgpeaaDoor
open Go Go.RowKit
set_option linter.unusedVariables false

theorem add1_le {a : Str} (h : a.length ≤ 1000000) : ([1] : Str).length + a.length ≤ maxLen := by rw [maxLen_eq]; show 1 + _ ≤ _; omega
theorem add2_le {a b : Str} (h : a.length ≤ 1000000) (h2 : b.length ≤ 1000000) : ([1] ++ a).length + b.length ≤ maxLen := by rw [maxLen_eq, List.length_append]; show 1 + _ + _ ≤ _; omega
theorem cat_one (a : Str) : cat [a] = a := by simp [cat]
end Go.Proofs.YtgnmbgbiajgpeaaDoor

namespace Go.Proofs.YtgnmbgbiajgpeaaDoor
open Go Go.RowKit
set_option linter.unusedVariables false

theorem verifyB_parts {leaf root : Str} {i n : Nat} {path : List Str} (h : verifyB leaf i n path root = true) : sumsB path = true ∧ upR leaf path.reverse i n = (root, true) := by
  simp only [verifyB, Bool.and_eq_true, beq_iff_eq, Int.toNat_natCast, upOf] at h
  obtain ⟨⟨_, h1⟩, h2, h3⟩ := h
  exact ⟨h1, by rw [← h2, ← h3]⟩

end Go.Proofs.YtgnmbgbiajgpeaaDoor

namespace Go.Proofs.YtgnmbgbiajgpeaaDoor
open Go Go.RowKit
set_option linter.unusedVariables false

/-- As fn_row, and what the callee leaves knows it too. -/
theorem fn_rowc {P : Program} {f : FuncId} {args : List Value} {h : Hp} {R : Rd} {Post : Value → Hp → Prop} (i : Nat) {A : Option Addr} {n cap : Nat} {e : TypeId} {sz : Nat} {xs : List Value} {fz : Nat × Nat} (hi : h[i]? = some (.row A n cap e sz xs fz)) (hc : Callable P f)
    (hF : n ≤ cap → cap ≤ maxLen → Fn P f args h R Post) : Fn P f args h R (fun v h' => n ≤ cap ∧ Post v h') :=
  fn_row i hi hc fun h1 h2 => Fn.post (hF h1 h2) fun _ _ _ p _ => ⟨h1, p⟩
theorem Ss.own {R : Rd} {h : Hp} (i : Nat) {A : Option Addr} {n cap : Nat} {e : TypeId} {L : List Str} {fz : Nat × Nat} (hi : h[i]? = some (.row A n cap e 1 (SV L) fz)) (hl : n = L.length) (hg : grow n A) (hc : n ≤ cap) : Ss (RH R h) (.slice A n cap) L := by
  subst hl
  exact ⟨A, cap, rfl, hc, SlR.own i hi (by rw [SV_length, Nat.mul_one]) hg⟩

theorem SsR.ownL {R : Rd} (h : Hp) (i : Nat) {A : Option Addr} {n cap : Nat} {e : TypeId} {L : List Str} {fz : Nat × Nat} (hi : h[i]? = some (.row A n cap e 1 (SV L) fz)) (hl : n = L.length) (hg : grow n A) : SsR (RH R h) (.slice A n cap) L := by
  subst hl
  exact SlR.own i hi (by rw [SV_length, Nat.mul_one]) hg

theorem blen_half {n : Nat} (h : 0 < n) : blen n = blen (n / 2) + 1 := by
  by_cases h1 : n = 1
  · subst h1; decide +kernel
  · have := blen_shift (m := n) (k := 1) (by omega)
    rw [Nat.pow_one] at this
    omega

def leavesOf (c : List Str) : List Str := c.map leafOf
theorem leavesOf_length (c : List Str) : (leavesOf c).length = c.length := by simp [leavesOf]
theorem leavesOf_sums (c : List Str) : sumsB (leavesOf c) = true := sumsB_iff.2 fun s hs => by
  obtain ⟨x, _, rfl⟩ := List.mem_map.1 hs
  exact leafOf_length x
theorem leavesOf_small {c : List Str} (h : c.length ≤ 1000000000) : Small (leavesOf c) := ⟨by rw [leavesOf_length]; exact h, fun s hs => by
  have := sumsB_iff.1 (leavesOf_sums c) s hs
  omega⟩
theorem leavesOf_succ {c : List Str} {k : Nat} (h : k < c.length) : SV (leavesOf (c.take k)) ++ [.string ⟨⟨leafOf (c.getD k [])⟩⟩] = SV (leavesOf (c.take (k + 1))) := by
  rw [SV_snoc, List.take_add_one, List.getD_eq_getElem?_getD, List.getElem?_eq_getElem h]
  show SV (leavesOf (c.take k) ++ [leafOf c[k]]) = SV (leavesOf (c.take k ++ [c[k]]))
  unfold leavesOf
  rw [List.map_append]; rfl

theorem Path_okc (R : Rd) (hG : ShaG R) (l : List Str) (i : Int) (v0 : Value) (hsm : Small l) (hs : Ss R v0 l) :
    Fn Tryd.prog 73 [v0, .int .i64 i] [] R (fun v h => ∃ A k cap xs, h = [.row A k cap 9 1 xs (0, 0)] ∧ grow k A ∧ k ≤ cap ∧
      ((¬ (0 ≤ i ∧ i < l.length) ∧ v = .tuple ⟨[.slice A k cap, .int .i64 1]⟩ ∧ k = 0 ∧ xs = []) ∨ (0 ≤ i ∧ i < l.length ∧ v = .tuple ⟨[.slice A k cap, .int .i64 0]⟩ ∧ k = (pathOf l i.toNat).length ∧ xs = SV (pathOf l i.toNat)))) :=
  Fn.post (Path_ok R hG l i v0 hsm hs) fun v h' w ⟨A, k, cap, xs, e, hg, hc⟩ o => ⟨A, k, cap, xs, e, hg, by subst e; exact (row_cap o 0 rfl).1, hc⟩

end Go.Proofs.YtgnmbgbiajgpeaaDoor

namespace Go.Proofs.YtgnmbgbiajgpeaaDoor
open Go Go.RowKit
set_option linter.unusedVariables false

theorem take_min (y : Str) (s : Nat) : y.take (min s y.length) = y.take s := by
  by_cases h : s ≤ y.length
  · rw [Nat.min_eq_left h]
  · rw [Nat.min_eq_right (by omega), List.take_length, List.take_of_length_le (by omega)]
theorem drop_min (y : Str) (s : Nat) : y.drop (min s y.length) = y.drop s := by
  by_cases h : s ≤ y.length
  · rw [Nat.min_eq_left h]
  · rw [Nat.min_eq_right (by omega), List.drop_length, List.drop_of_length_le (by omega)]
theorem Leaf_okn (R : Rd) (hG : ShaG R) (x : List UInt8) (A : Option Addr) (n cap : Nat) (hn : n = x.length) (hx : x.length ≤ 1152921504606846000) (hcap : x.length ≤ cap) (hs : BsR R (.slice A n cap) x) :
    Fn Tryd.prog 24 [.slice A n cap] [] R (fun v h => v = .string ⟨⟨leafOf x⟩⟩ ∧ h = []) := by
  subst hn; exact Leaf_ok R hG x A cap hx hcap hs
theorem BsR.takeK {R : Rd} {A : Option Addr} {n cap : Nat} {b : List UInt8} (hb : BsR R (.slice A n cap) b) {k : Nat} (h2 : k ≤ b.length) (hc : b.length ≤ cap) : BsR R (.slice (sliceBase A cap 0 1) (k - 0) (cap - 0)) (b.take k) := hb.sub (Nat.zero_le _) h2 hc
theorem BsR.dropK {R : Rd} {A : Option Addr} {n cap : Nat} {b : List UInt8} (hb : BsR R (.slice A n cap) b) {k : Nat} (h2 : k ≤ b.length) (hc : b.length ≤ cap) : BsR R (.slice (sliceBase A cap k 1) (b.length - k) (cap - k)) (b.drop k) := by
  have := hb.sub h2 (Nat.le_refl _) hc
  rwa [List.take_of_length_le (by rw [List.length_drop]; exact Nat.le_refl _)] at this

/-- What Blocks answers. -/
def BlPost (x : Str) (size : Int) (v : Value) (h : Hp) : Prop :=
  ∃ A k cap L, h = [.row A k cap 9 1 (SV L) (0, 0)] ∧ grow k A ∧ k = L.length ∧
    ((size < 1 ∧ v = .tuple ⟨[.slice A k cap, .int .i64 1]⟩ ∧ L = []) ∨ (1 ≤ size ∧ v = .tuple ⟨[.slice A k cap, .int .i64 0]⟩ ∧ L = blockLeaves size.toNat x))
/-- With the slice's capacity. -/
def BlPostc (x : Str) (size : Int) (v : Value) (h : Hp) : Prop :=
  ∃ A k cap L, h = [.row A k cap 9 1 (SV L) (0, 0)] ∧ grow k A ∧ k = L.length ∧ k ≤ cap ∧
    ((size < 1 ∧ v = .tuple ⟨[.slice A k cap, .int .i64 1]⟩ ∧ L = []) ∨ (1 ≤ size ∧ v = .tuple ⟨[.slice A k cap, .int .i64 0]⟩ ∧ L = blockLeaves size.toNat x))
theorem BlPost.caps {x : Str} {size : Int} {v : Value} {h : Hp} {w : World} (p : BlPost x size v h) (o : Own h w) : BlPostc x size v h := by
  obtain ⟨A, k, cap, L, rfl, hg, hk, hc⟩ := p
  exact ⟨A, k, cap, L, rfl, hg, hk, (row_cap o 0 rfl).1, hc⟩
theorem blockLeaves_le (s : Nat) : ∀ (n : Nat) (x : Str), x.length = n → (blockLeaves s x).length ≤ n := by
  intro n
  induction n using Nat.strongRecOn with
  | _ n ih =>
  intro x hn
  by_cases h : x.length = 0 ∨ s = 0
  · rw [blockLeaves, dif_pos h]; exact Nat.zero_le _
  · rw [blockLeaves, dif_neg h, List.length_cons]
    have := ih (x.drop s).length (by rw [List.length_drop]; omega) (x.drop s) rfl
    rw [List.length_drop] at this
    omega
theorem blockLeaves_sums (s : Nat) : ∀ (n : Nat) (x : Str), x.length = n → sumsB (blockLeaves s x) = true := by
  intro n
  induction n using Nat.strongRecOn with
  | _ n ih =>
  intro x hn
  by_cases h : x.length = 0 ∨ s = 0
  · rw [blockLeaves, dif_pos h]; rfl
  · rw [blockLeaves, dif_neg h]
    have := ih (x.drop s).length (by rw [List.length_drop]; omega) (x.drop s) rfl
    rw [sumsB_iff] at this ⊢
    intro t ht
    rcases List.mem_cons.1 ht with rfl | ht
    · exact leafOf_length _
    · exact this t ht
theorem blockLeaves_small {s : Nat} {x : Str} (hx : x.length ≤ 1048576) : Small (blockLeaves s x) := ⟨by have := blockLeaves_le s _ x rfl; omega, fun t ht => by
  have := sumsB_iff.1 (blockLeaves_sums s _ x rfl) t ht
  omega⟩
def ofV (x : Str) (size : Int) : Str × Int := if size < 1 then ([], 1) else (rootOf (blockLeaves size.toNat x), 0)

set_option maxRecDepth 100000 in
theorem Blocks_ok0 (R : Rd) (hG : ShaG R) (x : Str) (A : Option Addr) (cap : Nat) (size : Int) (hsz : size ≤ 9223372036854775807) (hx : x.length ≤ 1048576) (hcap : x.length ≤ cap) (hs : BsR R (.slice A x.length cap) x) :
    Fn Tryd.prog 12 [.slice A x.length cap, .int .i64 size] [] R (fun v h => BlPost x size v h) := by
  have hML := maxLen_eq
  refine fn_of_vc mixed tabOk Tryd.func12 rfl (by kernel_rfl) (Nat.le_of_ble_eq_true rfl) ?_
  by_cases c1 : size < 1
  · repeat (first | (refine ⟨fun h => ?_, fun h => ?_⟩; rotate_left 1; (focus (exfalso; (first | (with_reducible (cases h; done)) | (revert h; simp; done) | (revert h; simp; omega) | (revert h; simp [*]; done)))); clear h) | (refine ⟨fun h => ?_, fun h => ?_⟩; (focus (exfalso; (first | (with_reducible (cases h; done)) | (revert h; simp; done) | (revert h; simp; omega) | (revert h; simp [*]; done)))); clear h))
    exact ⟨_, Ent.nilrow [] 9 1, .none, 0, 0, [], rfl, .inl rfl, rfl, .inl ⟨c1, rfl, rfl⟩⟩
  obtain ⟨s, rfl⟩ := Int.eq_ofNat_of_zero_le (show 0 ≤ size by omega)
  have hs1 : 1 ≤ s := by omega
  repeat (first | (refine ⟨fun h => ?_, fun h => ?_⟩; rotate_left 1; (focus (exfalso; (first | (with_reducible (cases h; done)) | (revert h; simp; done) | (revert h; simp; omega) | (revert h; simp [*]; done)))); clear h) | (refine ⟨fun h => ?_, fun h => ?_⟩; (focus (exfalso; (first | (with_reducible (cases h; done)) | (revert h; simp; done) | (revert h; simp; omega) | (revert h; simp [*]; done)))); clear h))
  refine ⟨[some 0, none, none, none, none, none, some 6, some 7, none, none, none, none, none, some 13, some 14, some 15, some 16, some 17, some 18, some 19, some 20, some 21, some 22, some 23, some 24, some 25, some 26, some 27, some 28, some 29], [0, 6], Option Addr × Nat × Str × Option Addr × Nat × List Str, fun ⟨A0, cap0, y, B, capB, L⟩ => BsR R (.slice A0 y.length cap0) y ∧ y.length ≤ cap0 ∧ grow L.length B ∧ L ++ blockLeaves s y = blockLeaves s x ∧ y.length + L.length ≤ x.length,
    fun ⟨A0, cap0, y, B, capB, L⟩ => [.slice A0 y.length cap0, .slice B L.length capB], fun ⟨A0, cap0, y, B, capB, L⟩ => [.row B L.length capB 9 1 (SV L) (0, 0)], fun ⟨_, _, y, _, _, _⟩ => y.length,
    (A, cap, x, .none, 0, []), ⟨hs, hcap, .inl rfl, rfl, Nat.le_refl _⟩, ⟨rfl, rfl, trivial⟩, Ent.nilrow [] 9 1, ?_⟩
  rintro ⟨A0, cap0, y, B, capB, L⟩ ⟨hy, hyc, hg, hL, hyl⟩ js
  refine ⟨fun hb => ?_, fun hb => ?_⟩
  · replace hb := of_decide_eq_true hb
    have hy0 : 0 < y.length := by omega
    clear hb
    have hm1 : min s y.length ≤ y.length := Nat.min_le_right _ _
    have hm2 : 1 ≤ min s y.length := by omega
    (intro z hz; obtain rfl : z = ((min s y.length : Nat) : Int) := (by first | (rw [IntKind.wrap_i64] at hz; omega) | (rw [IntKind.wrap_u64] at hz; omega) | omega); clear hz)
    refine ⟨0, min s y.length, rfl, rfl, by omega, by omega, ?_⟩
    refine ⟨[], _, Leaf_okn _ (hG.rh _) (y.take (min s y.length)) _ _ _ (by rw [List.length_take]; omega) (by rw [List.length_take]; omega) (by rw [List.length_take]; omega) ((hy.takeK (by omega) hyc).rh _), ?_⟩
    rintro _ _ ⟨rfl, rfl⟩
    refine ⟨rfl, fun g3 => ?_⟩
    refine ⟨[.string ⟨⟨leafOf (y.take (min s y.length))⟩⟩], rfl, rdRow 1 rfl, rfl, by show (_ + _) * 16 ≤ _; omega, by omega, .inr ⟨0, rfl, rfl, rfl, rfl, rfl, rfl, fun B' capB' hg' => ?_⟩⟩
    refine ⟨min s y.length, y.length, rfl, rfl, by omega, by omega, ?_⟩
    refine ⟨rfl, (sliceBase A0 cap0 (min s y.length) 1, cap0 - min s y.length, y.drop (min s y.length), B', capB', L ++ [leafOf (y.take (min s y.length))]), ⟨?_, ?_, ?_, ?_, ?_⟩, ?_, ⟨?_, ?_, trivial⟩, ?_, rfl⟩
    rotate_right 3
    · show Value.slice _ (y.length - min s y.length) _ = Value.slice _ (y.drop (min s y.length)).length _
      rw [List.length_drop]; rfl
    · show Value.slice _ _ _ = Value.slice _ (L ++ [_]).length _
      rw [List.length_append]; rfl
    · show Ent [.row B' (L.length + 1) capB' _ 1 (SV L ++ [.string ⟨⟨leafOf (y.take (min s y.length))⟩⟩]) _, _] [.row B' (L ++ [leafOf (y.take (min s y.length))]).length capB' _ 1 (SV (L ++ [leafOf (y.take (min s y.length))])) _]
      rw [SV_snoc, List.length_append]
      exact Ent.drop [_] [_]
    · rw [List.length_drop]; exact hy.dropK hm1 hyc
    · rw [List.length_drop]; omega
    · rw [List.length_append]; exact hg'
    · rw [← hL, blockLeaves_cons hy0 hs1, List.append_assoc, take_min, drop_min]; rfl
    · rw [List.length_drop, List.length_append]; show _ + (_ + 1) ≤ _; omega
    · show (y.drop (min s y.length)).length < y.length
      rw [List.length_drop]; omega
  · replace hb := of_decide_eq_false hb
    have hy0 : y = [] := List.eq_nil_of_length_eq_zero (by omega)
    clear hb
    rw [hy0, blockLeaves_nil, List.append_nil] at hL
    exact ⟨_, Ent.refl _, B, _, capB, L, rfl, hg, rfl, .inr ⟨by omega, rfl, by rw [hL]; rfl⟩⟩
theorem Blocks_ok (R : Rd) (hG : ShaG R) (x : Str) (A : Option Addr) (cap : Nat) (size : Int) (hsz : size ≤ 9223372036854775807) (hx : x.length ≤ 1048576) (hcap : x.length ≤ cap) (hs : BsR R (.slice A x.length cap) x) :
    Fn Tryd.prog 12 [.slice A x.length cap, .int .i64 size] [] R (fun v h => BlPostc x size v h) :=
  Fn.post (Blocks_ok0 R hG x A cap size hsz hx hcap hs) fun _ _ _ p o => p.caps o

set_option maxRecDepth 100000 in
theorem Of_ok (R : Rd) (hG : ShaG R) (x : Str) (A : Option Addr) (cap : Nat) (size : Int) (hsz : size ≤ 9223372036854775807) (hx : x.length ≤ 1048576) (hcap : x.length ≤ cap) (hs : BsR R (.slice A x.length cap) x) :
    Fn Tryd.prog 59 [.slice A x.length cap, .int .i64 size] [] R (fun v h => v = .tuple ⟨[.string ⟨⟨(ofV x size).1⟩⟩, .int .i64 (ofV x size).2]⟩ ∧ h = []) := by
  refine fn_of_vc mixed tabOk Tryd.func59 rfl (by kernel_rfl) (Nat.le_of_ble_eq_true rfl) ?_
  refine ⟨[], _, Blocks_ok _ (hG.rh _) x A cap size hsz hx hcap (hs.rh _), ?_⟩
  rintro _ _ ⟨B, k, capB, L, rfl, hg, hk, hkc, hc⟩
  rcases hc with ⟨c, rfl, hL⟩ | ⟨c, rfl, hL⟩
  · repeat (first | (refine ⟨fun h => ?_, fun h => ?_⟩; rotate_left 1; (focus (exfalso; (first | (with_reducible (cases h; done)) | (revert h; simp; done) | (revert h; simp; omega) | (revert h; simp [*]; done)))); clear h) | (refine ⟨fun h => ?_, fun h => ?_⟩; (focus (exfalso; (first | (with_reducible (cases h; done)) | (revert h; simp; done) | (revert h; simp; omega) | (revert h; simp [*]; done)))); clear h))
    refine ⟨_, Ent.nil _, ?_, rfl⟩
    rw [ofV, if_pos c]; rfl
  · repeat (first | (refine ⟨fun h => ?_, fun h => ?_⟩; rotate_left 1; (focus (exfalso; (first | (with_reducible (cases h; done)) | (revert h; simp; done) | (revert h; simp; omega) | (revert h; simp [*]; done)))); clear h) | (refine ⟨fun h => ?_, fun h => ?_⟩; (focus (exfalso; (first | (with_reducible (cases h; done)) | (revert h; simp; done) | (revert h; simp; omega) | (revert h; simp [*]; done)))); clear h))
    have hsm : Small L := by rw [hL]; exact blockLeaves_small hx
    refine ⟨[], _, Root_ok _ (hG.rh _) _ L _ rfl hsm (Ss.own 0 rfl hk hg hkc), ?_⟩
    rintro _ _ ⟨rfl, rfl⟩
    refine ⟨_, Ent.nil _, ?_, rfl⟩
    rw [ofV, if_neg (by omega), ← hL]; rfl

end Go.Proofs.YtgnmbgbiajgpeaaDoor

namespace Go.Proofs.YtgnmbgbiajgpeaaDoor
open Go Go.RowKit
set_option linter.unusedVariables false

theorem blockLeaves_length {s : Nat} (hs : 1 ≤ s) : ∀ (n : Nat) (x : Str), x.length = n → (blockLeaves s x).length = countN n s := by
  intro n
  induction n using Nat.strongRecOn with
  | _ n ih =>
  intro x hn
  by_cases h : n = 0
  · rw [blockLeaves, dif_pos (.inl (by omega)), countN, if_pos h]; rfl
  · rw [blockLeaves_cons (by omega) hs, List.length_cons, ih (x.drop s).length (by rw [List.length_drop]; omega) (x.drop s) rfl, List.length_drop, hn, countN, countN, if_neg h]
    by_cases c : n ≤ s
    · rw [if_pos (by omega), Nat.div_eq_of_lt (by omega)]
    · rw [if_neg (by omega), Nat.div_eq_sub_div (by omega) (by omega : s ≤ n - 1)]
      have : n - s - 1 = n - 1 - s := by omega
      rw [this]
def blockOf (x : Str) (s b : Nat) : Str := (x.drop (b * s)).take (min s (x.length - b * s))
theorem blockOf_length {x : Str} {s b : Nat} : (blockOf x s b).length = min s (x.length - b * s) := by
  rw [blockOf, List.length_take, List.length_drop]; omega
/-- There is such a block. -/
def goodB (x : Str) (size block : Int) : Prop := 1 ≤ size ∧ 0 ≤ block ∧ block < (blockLeaves size.toNat x).length
theorem good_le {x : Str} {s b : Nat} (h : goodB x s b) : 1 ≤ s ∧ 1 ≤ x.length ∧ b * s ≤ x.length - 1 ∧ b < (blockLeaves s x).length ∧ b ≤ (x.length - 1) / s := by
  obtain ⟨h1, _, h3⟩ := h
  rw [Int.toNat_natCast] at h3
  have h4 := h3
  rw [blockLeaves_length (by omega) x.length x rfl, countN] at h4
  split at h4
  · omega
  · exact ⟨by omega, by omega, block_le (by omega) (by omega), by omega, by omega⟩
/-- What Show answers. -/
def ShowPost (x : Str) (size block : Int) (v : Value) (h : Hp) : Prop :=
  (¬ goodB x size block ∧ v = .tuple ⟨[.slice .none 0 0, .slice .none 0 0, .int .i64 1]⟩ ∧ h = []) ∨
  (goodB x size block ∧ ∃ A1 k1 c1 bs A2 k2 c2 p, h = [.row A2 k2 c2 9 1 (SV p) (0, 0), .row A1 k1 c1 5 1 (BV bs) (0, 0)] ∧ grow k2 A2 ∧ grow k1 A1 ∧ k2 = p.length ∧ k1 = bs.length ∧
    v = .tuple ⟨[.slice A1 k1 c1, .slice A2 k2 c2, .int .i64 0]⟩ ∧ bs = blockOf x size.toNat block.toNat ∧ p = pathOf (blockLeaves size.toNat x) block.toNat)

set_option maxRecDepth 100000 in
theorem Show_ok (R : Rd) (hG : ShaG R) (x : Str) (A : Option Addr) (cap : Nat) (size block : Int) (hsz : size ≤ 9223372036854775807) (hx : x.length ≤ 1048576) (hcap : x.length ≤ cap) (hs : BsR R (.slice A x.length cap) x) :
    Fn Tryd.prog 55 [.slice A x.length cap, .int .i64 size, .int .i64 block] [] R (fun v h => ShowPost x size block v h) := by
  have hML := maxLen_eq
  refine fn_of_vc mixed tabOk Tryd.func55 rfl (by kernel_rfl) (Nat.le_of_ble_eq_true rfl) ?_
  refine ⟨[], _, Blocks_ok _ (hG.rh _) x A cap size hsz hx hcap (hs.rh _), ?_⟩
  rintro _ _ ⟨B, k, capB, L, rfl, hg, hk, hkc, hc⟩
  rcases hc with ⟨c, rfl, hL⟩ | ⟨c, rfl, hL⟩
  · repeat (first | (refine ⟨fun h => ?_, fun h => ?_⟩; rotate_left 1; (focus (exfalso; (first | (with_reducible (cases h; done)) | (revert h; simp; done) | (revert h; simp; omega) | (revert h; simp [*]; done)))); clear h) | (refine ⟨fun h => ?_, fun h => ?_⟩; (focus (exfalso; (first | (with_reducible (cases h; done)) | (revert h; simp; done) | (revert h; simp; omega) | (revert h; simp [*]; done)))); clear h))
    exact ⟨_, Ent.nil _, .inl ⟨fun h => by have := h.1; omega, rfl, rfl⟩⟩
  have hsm : Small L := by rw [hL]; exact blockLeaves_small hx
  repeat (first | (refine ⟨fun h => ?_, fun h => ?_⟩; rotate_left 1; (focus (exfalso; (first | (with_reducible (cases h; done)) | (revert h; simp; done) | (revert h; simp; omega) | (revert h; simp [*]; done)))); clear h) | (refine ⟨fun h => ?_, fun h => ?_⟩; (focus (exfalso; (first | (with_reducible (cases h; done)) | (revert h; simp; done) | (revert h; simp; omega) | (revert h; simp [*]; done)))); clear h))
  refine ⟨[], _, Path_okc _ (hG.rh _) L block _ hsm (Ss.own 0 rfl hk hg hkc), ?_⟩
  rintro _ _ ⟨A2, k2, c2, xs2, rfl, hg2, _, hc2⟩
  rcases hc2 with ⟨hn, rfl, _, _⟩ | ⟨h0, h1, rfl, hk2, hxs⟩
  · repeat (first | (refine ⟨fun h => ?_, fun h => ?_⟩; rotate_left 1; (focus (exfalso; (first | (with_reducible (cases h; done)) | (revert h; simp; done) | (revert h; simp; omega) | (revert h; simp [*]; done)))); clear h) | (refine ⟨fun h => ?_, fun h => ?_⟩; (focus (exfalso; (first | (with_reducible (cases h; done)) | (revert h; simp; done) | (revert h; simp; omega) | (revert h; simp [*]; done)))); clear h))
    exact ⟨_, Ent.nil _, .inl ⟨fun h => hn ⟨h.2.1, by rw [hL]; exact h.2.2⟩, rfl, rfl⟩⟩
  · have hgood : goodB x size block := ⟨c, h0, by rw [← hL]; exact h1⟩
    obtain ⟨s, rfl⟩ := Int.eq_ofNat_of_zero_le (show 0 ≤ size by omega)
    obtain ⟨b, rfl⟩ := Int.eq_ofNat_of_zero_le (show 0 ≤ block by omega)
    obtain ⟨g1, g2, g3, g4, g5⟩ := good_le hgood
    repeat (first | (refine ⟨fun h => ?_, fun h => ?_⟩; rotate_left 1; (focus (exfalso; (first | (with_reducible (cases h; done)) | (revert h; simp; done) | (revert h; simp; omega) | (revert h; simp [*]; done)))); clear h) | (refine ⟨fun h => ?_, fun h => ?_⟩; (focus (exfalso; (first | (with_reducible (cases h; done)) | (revert h; simp; done) | (revert h; simp; omega) | (revert h; simp [*]; done)))); clear h))
    intro z hz
    obtain rfl := mul_nat (by omega) hz
    clear hz
    refine ⟨rfl, fun g => ?_⟩
    refine ⟨[], _, extent_ok _ x.length s b (by omega) (by omega) (by omega), ?_⟩
    rintro _ _ ⟨rfl, rfl⟩
    (intro z hz; obtain rfl : z = ((b * s + min s (x.length - b * s) : Nat) : Int) := (by first | (rw [IntKind.wrap_i64] at hz; omega) | (rw [IntKind.wrap_u64] at hz; omega) | omega); clear hz)
    have hb : BsR R (.slice (sliceBase A cap (b * s) 1) (b * s + min s (x.length - b * s) - b * s) (cap - b * s)) (blockOf x s b) := by
      have := hs.sub (l := b * s) (h := b * s + min s (x.length - b * s)) (by omega) (by omega) hcap
      have e : (x.drop (b * s)).take (b * s + min s (x.length - b * s) - b * s) = blockOf x s b := by rw [Nat.add_sub_cancel_left]; rfl
      rwa [e] at this
    have hbl := blockOf_length (x := x) (s := s) (b := b)
    refine ⟨b * s, b * s + min s (x.length - b * s), rfl, rfl, by omega, by omega, ?_⟩
    refine ⟨BV (blockOf x s b), by show _ = (b * s + min s (x.length - b * s) - b * s) * 1; rw [BV_length, hbl]; omega, (hb.rh _).src, BV_one _, by show (_ + _) * 1 ≤ _; omega, by omega, .inr ⟨2, rfl, rfl, rfl, rfl, rfl, rfl, fun A1 c1 hg1 => ?_⟩⟩
    exact ⟨_, Ent.dropr [_] [_, _], .inr ⟨hgood, A1, _, c1, blockOf x s b, A2, _, c2, pathOf L b, by rw [hxs]; rfl, hg2, hg1, hk2, by rw [hbl]; omega, rfl, rfl, by rw [hL]; rfl⟩⟩

theorem SsR.nil (R : Rd) : SsR R (.slice none 0 0) [] := ⟨rfl, none, 0, rfl, fun j u h => by simp [SV] at h⟩
theorem Int.eql_self (z : Int) : decide (z = z) = true := decide_eq_true rfl
theorem Str.eql_self (z : Str) : decide (z = z) = true := decide_eq_true rfl
theorem quo20 {n : Nat} {z : Int} (hn : n ≤ 1000000) (hz : z = IntKind.i64.wrap ((n : Int).tdiv 20)) : z = ((n / 20 : Nat) : Int) := quo_nat (b := 20) rfl (by omega) hz

end Go.Proofs.YtgnmbgbiajgpeaaDoor

namespace Go.Proofs.YtgnmbgbiajgpeaaDoor
open Go Go.RowKit
set_option linter.unusedVariables false

theorem blockLeaves_get {s : Nat} (hs : 1 ≤ s) : ∀ (b : Nat) (x : Str), b < (blockLeaves s x).length → (blockLeaves s x).getD b [] = leafOf (blockOf x s b)
  | b, x, h => by
    have hx : 0 < x.length := by
      rcases Nat.eq_zero_or_pos x.length with h0 | h0
      · rw [List.eq_nil_of_length_eq_zero h0, blockLeaves_nil] at h; cases h
      · exact h0
    rw [blockLeaves_cons hx hs] at h ⊢
    cases b with
    | zero => rw [blockOf, Nat.zero_mul, Nat.sub_zero, List.drop_zero, take_min]; rfl
    | succ b =>
      rw [List.length_cons] at h
      show (blockLeaves s (x.drop s)).getD b [] = _
      rw [blockLeaves_get hs b (x.drop s) (by omega), blockOf, blockOf, List.drop_drop, List.length_drop, Nat.succ_mul]
      congr 3
      · omega
      · omega
theorem see_good {x : Str} {s b : Nat} (h : goodB x s b) : seeB (rootOf (blockLeaves s x)) x.length s b (blockOf x s b) (pathOf (blockLeaves s x) b) = true ∧
    upR (leafOf (blockOf x s b)) (pathOf (blockLeaves s x) b).reverse b ((x.length - 1) / s + 1) = (rootOf (blockLeaves s x), true) := by
  obtain ⟨g1, g2, g3, g4, g5⟩ := good_le h
  have hL : (blockLeaves s x).length = (x.length - 1) / s + 1 := by rw [blockLeaves_length g1 x.length x rfl, countN, if_neg (by omega)]
  have hv := proves (l := blockLeaves s x) (i := b) g4 (blockLeaves_sums s _ x rfl)
  rw [blockLeaves_get g1 b x g4, hL] at hv
  refine ⟨?_, (verifyB_parts hv).2⟩
  rw [seeB_nat g2 g1 g5, if_pos blockOf_length, hv]
theorem see_up {root other : Str} {p : List Str} {n s b : Nat} (g2 : 1 ≤ n) (g1 : 1 ≤ s) (g5 : b ≤ (n - 1) / s) (h : seeB root n s b other p = true) : upR (leafOf other) p.reverse b ((n - 1) / s + 1) = (root, true) := by
  rw [seeB_nat g2 g1 g5] at h
  split at h
  · exact (verifyB_parts h).2
  · cases h
theorem leaf_coll {a b : Str} (h : a ≠ b) (e : leafOf a = leafOf b) : collB (0 :: a) (0 :: b) = true := collB_true (fun h2 => h (List.cons.inj h2).2) e

end Go.Proofs.YtgnmbgbiajgpeaaDoor

namespace Go.Proofs.YtgnmbgbiajgpeaaDoor
open Go Go.RowKit
set_option linter.unusedVariables false

def ShowPostc (x : Str) (size block : Int) (v : Value) (h : Hp) : Prop :=
  (¬ goodB x size block ∧ v = .tuple ⟨[.slice .none 0 0, .slice .none 0 0, .int .i64 1]⟩ ∧ h = []) ∨
  (goodB x size block ∧ ∃ A1 c1 bs A2 c2 p, h = [.row A2 p.length c2 9 1 (SV p) (0, 0), .row A1 bs.length c1 5 1 (BV bs) (0, 0)] ∧ grow p.length A2 ∧ grow bs.length A1 ∧ p.length ≤ c2 ∧ bs.length ≤ c1 ∧
    v = .tuple ⟨[.slice A1 bs.length c1, .slice A2 p.length c2, .int .i64 0]⟩ ∧ bs = blockOf x size.toNat block.toNat ∧ p = pathOf (blockLeaves size.toNat x) block.toNat)
theorem Show_okc (R : Rd) (hG : ShaG R) (x : Str) (A : Option Addr) (cap : Nat) (size block : Int) (hsz : size ≤ 9223372036854775807) (hx : x.length ≤ 1048576) (hcap : x.length ≤ cap) (hs : BsR R (.slice A x.length cap) x) :
    Fn Tryd.prog 55 [.slice A x.length cap, .int .i64 size, .int .i64 block] [] R (fun v h => ShowPostc x size block v h) :=
  Fn.post (Show_ok R hG x A cap size block hsz hx hcap hs) fun v h w p o => by
    rcases p with p | ⟨gd, A1, k1, c1, bs, A2, k2, c2, p, rfl, hg2, hg1, rfl, rfl, hv, hb, hp⟩
    · exact .inl p
    · exact .inr ⟨gd, A1, c1, bs, A2, c2, p, rfl, hg2, hg1, (row_cap o 0 rfl).1, (row_cap o 1 rfl).1, hv, hb, hp⟩
theorem add0_le {a : Str} (h : a.length ≤ 1000000) : ([0] : Str).length + a.length ≤ maxLen := by rw [maxLen_eq]; show 1 + _ ≤ _; omega

end Go.Proofs.YtgnmbgbiajgpeaaDoor
