/-
  The reference's words on records: Valid, values, Sum, last, Continues, Verify.
-/
import Derived.Test.YtoddabjacjkjbaaDoorS4
import Derived.Test.YtoddabjacjkjbaaDoorW3
import Derived.Test.YtoddabjacjkjbaaDoorH2
import Derived.Test.YtoddabjacjkjbaaDoorSnr
namespace Go.Proofs.YtoddabjacjkjbaaDoor
open Go Go.RowKit
set_option linter.unusedVariables false

theorem refwithin_ok (R : Rd) (n m : Int) : Fn Tryd.prog 187 [.int .i64 n, .int .i64 m] [] R (fun v h => v = .bool (inB n 0 m) ∧ h = []) := by
  refine fn_of_vc mixed tabOk Tryd.func187 rfl (by kernel_rfl) (Nat.le_of_ble_eq_true rfl) ?_
  by_cases h1 : 0 ≤ n
  · have e : inB n 0 m = decide (n ≤ m) := by rw [inB, decide_eq_true h1, Bool.true_and]
    repeat (first | (refine ⟨fun h => ?_, fun h => ?_⟩; rotate_left 1; (focus (exfalso; (first | (with_reducible (cases h; done)) | (revert h; simp; done) | (revert h; simp; omega) | (revert h; simp [*]; done)))); clear h) | (refine ⟨fun h => ?_, fun h => ?_⟩; (focus (exfalso; (first | (with_reducible (cases h; done)) | (revert h; simp; done) | (revert h; simp; omega) | (revert h; simp [*]; done)))); clear h))
    exact ⟨_, Ent.refl _, by rw [e]; rfl, rfl⟩
  · have e : inB n 0 m = false := by rw [inB, decide_eq_false h1, Bool.false_and]
    repeat (first | (refine ⟨fun h => ?_, fun h => ?_⟩; rotate_left 1; (focus (exfalso; (first | (with_reducible (cases h; done)) | (revert h; simp; done) | (revert h; simp; omega) | (revert h; simp [*]; done)))); clear h) | (refine ⟨fun h => ?_, fun h => ?_⟩; (focus (exfalso; (first | (with_reducible (cases h; done)) | (revert h; simp; done) | (revert h; simp; omega) | (revert h; simp [*]; done)))); clear h))
    refine ⟨_, Ent.refl _, ?_, rfl⟩
    rw [e]; first | rfl | (show Value.bool (decide _) = _; rw [decide_eq_false h1])

set_option maxRecDepth 100000 in
set_option maxHeartbeats 4000000 in
theorem refValid_ok (R : Rd) (s : Snap) (hq1 : -9223372036854775808 ≤ s.q) (hq2 : s.q ≤ 9223372036854775807) : Fn Tryd.prog 168 [.agg ⟨s.cells⟩] [] R (fun v h => v = .bool (validB s) ∧ h = []) := by
  refine fn_of_vc mixed tabOk Tryd.func168 rfl (by kernel_rfl) (Nat.le_of_ble_eq_true rfl) ?_
  intro g
  refine ⟨_, ld 0 rfl rfl, ?_⟩
  refine ⟨[], _, refwithin_ok _ _ _, ?_⟩
  rintro _ _ ⟨rfl, rfl⟩
  cases h1 : inB s.w 0 11
  · have e : validB s = false := by rw [validB, h1, Bool.false_and]
    repeat (first | (refine ⟨fun h => ?_, fun h => ?_⟩; rotate_left 1; (focus (exfalso; (first | (with_reducible (cases h; done)) | (revert h; simp; done) | (revert h; simp; omega) | (revert h; simp [*]; done)))); clear h) | (refine ⟨fun h => ?_, fun h => ?_⟩; (focus (exfalso; (first | (with_reducible (cases h; done)) | (revert h; simp; done) | (revert h; simp; omega) | (revert h; simp [*]; done)))); clear h))
    exact ⟨_, Ent.nil _, by rw [e]; rfl, rfl⟩
  repeat (first | (refine ⟨fun h => ?_, fun h => ?_⟩; rotate_left 1; (focus (exfalso; (first | (with_reducible (cases h; done)) | (revert h; simp; done) | (revert h; simp; omega) | (revert h; simp [*]; done)))); clear h) | (refine ⟨fun h => ?_, fun h => ?_⟩; (focus (exfalso; (first | (with_reducible (cases h; done)) | (revert h; simp; done) | (revert h; simp; omega) | (revert h; simp [*]; done)))); clear h))
  refine ⟨_, ld 0 rfl rfl, ?_⟩
  repeat (first | (refine ⟨fun h => ?_, fun h => ?_⟩; rotate_left 1; (focus (exfalso; (first | (with_reducible (cases h; done)) | (revert h; simp; done) | (revert h; simp; omega) | (revert h; simp [*]; done)))); clear h) | (refine ⟨fun h => ?_, fun h => ?_⟩; (focus (exfalso; (first | (with_reducible (cases h; done)) | (revert h; simp; done) | (revert h; simp; omega) | (revert h; simp [*]; done)))); clear h))
  intro z hz
  have hzq : inB z 0 1099511627775 = inB s.q 1 1099511627776 := by
    rw [IntKind.wrap_i64] at hz
    rw [Bool.eq_iff_iff, inB_iff, inB_iff]; omega
  clear hz
  repeat (first | (refine ⟨fun h => ?_, fun h => ?_⟩; rotate_left 1; (focus (exfalso; (first | (with_reducible (cases h; done)) | (revert h; simp; done) | (revert h; simp; omega) | (revert h; simp [*]; done)))); clear h) | (refine ⟨fun h => ?_, fun h => ?_⟩; (focus (exfalso; (first | (with_reducible (cases h; done)) | (revert h; simp; done) | (revert h; simp; omega) | (revert h; simp [*]; done)))); clear h))
  refine ⟨[], _, refwithin_ok _ _ _, ?_⟩
  rintro _ _ ⟨rfl, rfl⟩
  rw [hzq]
  cases h2 : inB s.q 1 1099511627776
  · have e : validB s = false := by rw [validB, h1, h2, Bool.true_and, Bool.false_and]
    repeat (first | (refine ⟨fun h => ?_, fun h => ?_⟩; rotate_left 1; (focus (exfalso; (first | (with_reducible (cases h; done)) | (revert h; simp; done) | (revert h; simp; omega) | (revert h; simp [*]; done)))); clear h) | (refine ⟨fun h => ?_, fun h => ?_⟩; (focus (exfalso; (first | (with_reducible (cases h; done)) | (revert h; simp; done) | (revert h; simp; omega) | (revert h; simp [*]; done)))); clear h))
    exact ⟨_, Ent.nil _, by rw [e]; rfl, rfl⟩
  repeat (first | (refine ⟨fun h => ?_, fun h => ?_⟩; rotate_left 1; (focus (exfalso; (first | (with_reducible (cases h; done)) | (revert h; simp; done) | (revert h; simp; omega) | (revert h; simp [*]; done)))); clear h) | (refine ⟨fun h => ?_, fun h => ?_⟩; (focus (exfalso; (first | (with_reducible (cases h; done)) | (revert h; simp; done) | (revert h; simp; omega) | (revert h; simp [*]; done)))); clear h))
  refine ⟨_, ld 0 rfl rfl, ?_⟩
  repeat (first | (refine ⟨fun h => ?_, fun h => ?_⟩; rotate_left 1; (focus (exfalso; (first | (with_reducible (cases h; done)) | (revert h; simp; done) | (revert h; simp; omega) | (revert h; simp [*]; done)))); clear h) | (refine ⟨fun h => ?_, fun h => ?_⟩; (focus (exfalso; (first | (with_reducible (cases h; done)) | (revert h; simp; done) | (revert h; simp; omega) | (revert h; simp [*]; done)))); clear h))
  refine ⟨[], _, refwithin_ok _ _ _, ?_⟩
  rintro _ _ ⟨rfl, rfl⟩
  cases h3 : inB s.d 0 999999
  · have e : validB s = false := by rw [validB, h1, h2, h3]; rfl
    repeat (first | (refine ⟨fun h => ?_, fun h => ?_⟩; rotate_left 1; (focus (exfalso; (first | (with_reducible (cases h; done)) | (revert h; simp; done) | (revert h; simp; omega) | (revert h; simp [*]; done)))); clear h) | (refine ⟨fun h => ?_, fun h => ?_⟩; (focus (exfalso; (first | (with_reducible (cases h; done)) | (revert h; simp; done) | (revert h; simp; omega) | (revert h; simp [*]; done)))); clear h))
    exact ⟨_, Ent.nil _, by rw [e]; rfl, rfl⟩
  repeat (first | (refine ⟨fun h => ?_, fun h => ?_⟩; rotate_left 1; (focus (exfalso; (first | (with_reducible (cases h; done)) | (revert h; simp; done) | (revert h; simp; omega) | (revert h; simp [*]; done)))); clear h) | (refine ⟨fun h => ?_, fun h => ?_⟩; (focus (exfalso; (first | (with_reducible (cases h; done)) | (revert h; simp; done) | (revert h; simp; omega) | (revert h; simp [*]; done)))); clear h))
  refine ⟨_, ld 0 rfl rfl, ?_⟩
  by_cases h4 : (s.nm.length : Int) = 32
  case neg =>
    have e : validB s = false := by rw [validB, h1, h2, h3, decide_eq_false (by omega : ¬ s.nm.length = 32)]; rfl
    repeat (first | (refine ⟨fun h => ?_, fun h => ?_⟩; rotate_left 1; (focus (exfalso; (first | (with_reducible (cases h; done)) | (revert h; simp; done) | (revert h; simp; omega) | (revert h; simp [*]; done)))); clear h) | (refine ⟨fun h => ?_, fun h => ?_⟩; (focus (exfalso; (first | (with_reducible (cases h; done)) | (revert h; simp; done) | (revert h; simp; omega) | (revert h; simp [*]; done)))); clear h))
    exact ⟨_, Ent.nil _, by rw [e]; rfl, rfl⟩
  have h4' : decide (s.nm.length = 32) = true := decide_eq_true (by omega)
  repeat (first | (refine ⟨fun h => ?_, fun h => ?_⟩; rotate_left 1; (focus (exfalso; (first | (with_reducible (cases h; done)) | (revert h; simp; done) | (revert h; simp; omega) | (revert h; simp [*]; done)))); clear h) | (refine ⟨fun h => ?_, fun h => ?_⟩; (focus (exfalso; (first | (with_reducible (cases h; done)) | (revert h; simp; done) | (revert h; simp; omega) | (revert h; simp [*]; done)))); clear h))
  refine ⟨_, ld 0 rfl rfl, ?_⟩
  refine ⟨[], _, refwithin_ok _ _ _, ?_⟩
  rintro _ _ ⟨rfl, rfl⟩
  cases h5 : inB s.gn 0 1099511627776
  · have e : validB s = false := by rw [validB, h1, h2, h3, h4', h5]; rfl
    repeat (first | (refine ⟨fun h => ?_, fun h => ?_⟩; rotate_left 1; (focus (exfalso; (first | (with_reducible (cases h; done)) | (revert h; simp; done) | (revert h; simp; omega) | (revert h; simp [*]; done)))); clear h) | (refine ⟨fun h => ?_, fun h => ?_⟩; (focus (exfalso; (first | (with_reducible (cases h; done)) | (revert h; simp; done) | (revert h; simp; omega) | (revert h; simp [*]; done)))); clear h))
    exact ⟨_, Ent.nil _, by rw [e]; rfl, rfl⟩
  repeat (first | (refine ⟨fun h => ?_, fun h => ?_⟩; rotate_left 1; (focus (exfalso; (first | (with_reducible (cases h; done)) | (revert h; simp; done) | (revert h; simp; omega) | (revert h; simp [*]; done)))); clear h) | (refine ⟨fun h => ?_, fun h => ?_⟩; (focus (exfalso; (first | (with_reducible (cases h; done)) | (revert h; simp; done) | (revert h; simp; omega) | (revert h; simp [*]; done)))); clear h))
  refine ⟨_, ld 0 rfl rfl, ?_⟩
  repeat (first | (refine ⟨fun h => ?_, fun h => ?_⟩; rotate_left 1; (focus (exfalso; (first | (with_reducible (cases h; done)) | (revert h; simp; done) | (revert h; simp; omega) | (revert h; simp [*]; done)))); clear h) | (refine ⟨fun h => ?_, fun h => ?_⟩; (focus (exfalso; (first | (with_reducible (cases h; done)) | (revert h; simp; done) | (revert h; simp; omega) | (revert h; simp [*]; done)))); clear h))
  refine ⟨[], _, refwithin_ok _ _ _, ?_⟩
  rintro _ _ ⟨rfl, rfl⟩
  cases h6 : inB s.sz 0 65536
  · have e : validB s = false := by rw [validB, h1, h2, h3, h4', h5, h6]; rfl
    repeat (first | (refine ⟨fun h => ?_, fun h => ?_⟩; rotate_left 1; (focus (exfalso; (first | (with_reducible (cases h; done)) | (revert h; simp; done) | (revert h; simp; omega) | (revert h; simp [*]; done)))); clear h) | (refine ⟨fun h => ?_, fun h => ?_⟩; (focus (exfalso; (first | (with_reducible (cases h; done)) | (revert h; simp; done) | (revert h; simp; omega) | (revert h; simp [*]; done)))); clear h))
    exact ⟨_, Ent.nil _, by rw [e]; rfl, rfl⟩
  repeat (first | (refine ⟨fun h => ?_, fun h => ?_⟩; rotate_left 1; (focus (exfalso; (first | (with_reducible (cases h; done)) | (revert h; simp; done) | (revert h; simp; omega) | (revert h; simp [*]; done)))); clear h) | (refine ⟨fun h => ?_, fun h => ?_⟩; (focus (exfalso; (first | (with_reducible (cases h; done)) | (revert h; simp; done) | (revert h; simp; omega) | (revert h; simp [*]; done)))); clear h))
  refine ⟨_, ld 0 rfl rfl, ?_⟩
  repeat (first | (refine ⟨fun h => ?_, fun h => ?_⟩; rotate_left 1; (focus (exfalso; (first | (with_reducible (cases h; done)) | (revert h; simp; done) | (revert h; simp; omega) | (revert h; simp [*]; done)))); clear h) | (refine ⟨fun h => ?_, fun h => ?_⟩; (focus (exfalso; (first | (with_reducible (cases h; done)) | (revert h; simp; done) | (revert h; simp; omega) | (revert h; simp [*]; done)))); clear h))
  refine ⟨[], _, refwithin_ok _ _ _, ?_⟩
  rintro _ _ ⟨rfl, rfl⟩
  cases h7 : inB s.fl 0 4096
  · have e : validB s = false := by rw [validB, h1, h2, h3, h4', h5, h6, h7]; rfl
    repeat (first | (refine ⟨fun h => ?_, fun h => ?_⟩; rotate_left 1; (focus (exfalso; (first | (with_reducible (cases h; done)) | (revert h; simp; done) | (revert h; simp; omega) | (revert h; simp [*]; done)))); clear h) | (refine ⟨fun h => ?_, fun h => ?_⟩; (focus (exfalso; (first | (with_reducible (cases h; done)) | (revert h; simp; done) | (revert h; simp; omega) | (revert h; simp [*]; done)))); clear h))
    exact ⟨_, Ent.nil _, by rw [e]; rfl, rfl⟩
  repeat (first | (refine ⟨fun h => ?_, fun h => ?_⟩; rotate_left 1; (focus (exfalso; (first | (with_reducible (cases h; done)) | (revert h; simp; done) | (revert h; simp; omega) | (revert h; simp [*]; done)))); clear h) | (refine ⟨fun h => ?_, fun h => ?_⟩; (focus (exfalso; (first | (with_reducible (cases h; done)) | (revert h; simp; done) | (revert h; simp; omega) | (revert h; simp [*]; done)))); clear h))
  refine ⟨_, ld 0 rfl rfl, ?_⟩
  repeat (first | (refine ⟨fun h => ?_, fun h => ?_⟩; rotate_left 1; (focus (exfalso; (first | (with_reducible (cases h; done)) | (revert h; simp; done) | (revert h; simp; omega) | (revert h; simp [*]; done)))); clear h) | (refine ⟨fun h => ?_, fun h => ?_⟩; (focus (exfalso; (first | (with_reducible (cases h; done)) | (revert h; simp; done) | (revert h; simp; omega) | (revert h; simp [*]; done)))); clear h))
  refine ⟨[], _, refwithin_ok _ _ _, ?_⟩
  rintro _ _ ⟨rfl, rfl⟩
  cases h8 : inB s.bt 0 1099511627776
  · have e : validB s = false := by rw [validB, h1, h2, h3, h4', h5, h6, h7, h8]; rfl
    repeat (first | (refine ⟨fun h => ?_, fun h => ?_⟩; rotate_left 1; (focus (exfalso; (first | (with_reducible (cases h; done)) | (revert h; simp; done) | (revert h; simp; omega) | (revert h; simp [*]; done)))); clear h) | (refine ⟨fun h => ?_, fun h => ?_⟩; (focus (exfalso; (first | (with_reducible (cases h; done)) | (revert h; simp; done) | (revert h; simp; omega) | (revert h; simp [*]; done)))); clear h))
    exact ⟨_, Ent.nil _, by rw [e]; rfl, rfl⟩
  have e : validB s = if s.q = 1 then decide (s.pv = []) else decide (s.pv.length = 32) := by
    rw [validB, h1, h2, h3, h4', h5, h6, h7, h8]; simp only [Bool.true_and]
  have hq := inB_iff.1 h2
  repeat (first | (refine ⟨fun h => ?_, fun h => ?_⟩; rotate_left 1; (focus (exfalso; (first | (with_reducible (cases h; done)) | (revert h; simp; done) | (revert h; simp; omega) | (revert h; simp [*]; done)))); clear h) | (refine ⟨fun h => ?_, fun h => ?_⟩; (focus (exfalso; (first | (with_reducible (cases h; done)) | (revert h; simp; done) | (revert h; simp; omega) | (revert h; simp [*]; done)))); clear h))
  refine ⟨_, ld 0 rfl rfl, ?_⟩
  by_cases h9 : s.q = 1
  · repeat (first | (refine ⟨fun h => ?_, fun h => ?_⟩; rotate_left 1; (focus (exfalso; (first | (with_reducible (cases h; done)) | (revert h; simp; done) | (revert h; simp; omega) | (revert h; simp [*]; done)))); clear h) | (refine ⟨fun h => ?_, fun h => ?_⟩; (focus (exfalso; (first | (with_reducible (cases h; done)) | (revert h; simp; done) | (revert h; simp; omega) | (revert h; simp [*]; done)))); clear h))
    refine ⟨_, ld 0 rfl rfl, ?_⟩
    rw [if_pos h9] at e
    by_cases h10 : s.pv = []
    · repeat (first | (refine ⟨fun h => ?_, fun h => ?_⟩; rotate_left 1; (focus (exfalso; (first | (with_reducible (cases h; done)) | (revert h; simp; done) | (revert h; simp; omega) | (revert h; simp [*]; done)))); clear h) | (refine ⟨fun h => ?_, fun h => ?_⟩; (focus (exfalso; (first | (with_reducible (cases h; done)) | (revert h; simp; done) | (revert h; simp; omega) | (revert h; simp [*]; done)))); clear h))
      refine ⟨_, Ent.nil _, ?_, rfl⟩
      rw [e, decide_eq_true h10]; first | rfl | (show Value.bool (decide _) = _; rw [decide_eq_true h10])
    · repeat (first | (refine ⟨fun h => ?_, fun h => ?_⟩; rotate_left 1; (focus (exfalso; (first | (with_reducible (cases h; done)) | (revert h; simp; done) | (revert h; simp; omega) | (revert h; simp [*]; done)))); clear h) | (refine ⟨fun h => ?_, fun h => ?_⟩; (focus (exfalso; (first | (with_reducible (cases h; done)) | (revert h; simp; done) | (revert h; simp; omega) | (revert h; simp [*]; done)))); clear h))
      refine ⟨_, ld 0 rfl rfl, ?_⟩
      repeat (first | (refine ⟨fun h => ?_, fun h => ?_⟩; rotate_left 1; (focus (exfalso; (first | (with_reducible (cases h; done)) | (revert h; simp; done) | (revert h; simp; omega) | (revert h; simp [*]; done)))); clear h) | (refine ⟨fun h => ?_, fun h => ?_⟩; (focus (exfalso; (first | (with_reducible (cases h; done)) | (revert h; simp; done) | (revert h; simp; omega) | (revert h; simp [*]; done)))); clear h))
      refine ⟨_, Ent.nil _, ?_, rfl⟩
      rw [e, decide_eq_false h10]; first | rfl | (show Value.bool (decide _) = _; first | rw [decide_eq_false (by omega)] | rw [decide_eq_false h10])
  · repeat (first | (refine ⟨fun h => ?_, fun h => ?_⟩; rotate_left 1; (focus (exfalso; (first | (with_reducible (cases h; done)) | (revert h; simp; done) | (revert h; simp; omega) | (revert h; simp [*]; done)))); clear h) | (refine ⟨fun h => ?_, fun h => ?_⟩; (focus (exfalso; (first | (with_reducible (cases h; done)) | (revert h; simp; done) | (revert h; simp; omega) | (revert h; simp [*]; done)))); clear h))
    refine ⟨_, ld 0 rfl rfl, ?_⟩
    repeat (first | (refine ⟨fun h => ?_, fun h => ?_⟩; rotate_left 1; (focus (exfalso; (first | (with_reducible (cases h; done)) | (revert h; simp; done) | (revert h; simp; omega) | (revert h; simp [*]; done)))); clear h) | (refine ⟨fun h => ?_, fun h => ?_⟩; (focus (exfalso; (first | (with_reducible (cases h; done)) | (revert h; simp; done) | (revert h; simp; omega) | (revert h; simp [*]; done)))); clear h))
    refine ⟨_, ld 0 rfl rfl, ?_⟩
    repeat (first | (refine ⟨fun h => ?_, fun h => ?_⟩; rotate_left 1; (focus (exfalso; (first | (with_reducible (cases h; done)) | (revert h; simp; done) | (revert h; simp; omega) | (revert h; simp [*]; done)))); clear h) | (refine ⟨fun h => ?_, fun h => ?_⟩; (focus (exfalso; (first | (with_reducible (cases h; done)) | (revert h; simp; done) | (revert h; simp; omega) | (revert h; simp [*]; done)))); clear h))
    refine ⟨_, Ent.nil _, ?_, rfl⟩
    rw [e, if_neg h9]
    show Value.bool (decide ((s.pv.length : Int) = 32)) = Value.bool (decide (s.pv.length = 32))
    congr 1
    exact decide_eq_decide.2 (by omega)

def numI (n : Nat) : Item := ⟨1, n, 0, false, [], 0⟩
theorem number_ok2 (R : Rd) (n : Nat) (hn : n ≤ 9223372036854775807) : Fn Tryd.prog 193 [.int .i64 n] [] R (fun v h => v = .agg ⟨(numI n).cells⟩ ∧ h = []) := by
  refine fn_of_vc mixed tabOk Tryd.func193 rfl (by kernel_rfl) (Nat.le_of_ble_eq_true rfl) ?_
  intro g
  (intro z hz; obtain rfl : z = ((n : Nat) : Int) := (by first | (rw [IntKind.wrap_i64] at hz; omega) | (rw [IntKind.wrap_u64] at hz; omega) | omega); clear hz)
  refine ⟨rfl, rfl, 0, rfl, rfl, Nat.le_of_ble_eq_true rfl, ?_⟩
  refine ⟨(numI n).cells, rdBlk 0 rfl, rfl, ?_⟩
  exact ⟨_, Ent.nil _, rfl, rfl⟩

def valI (s : Snap) : List Item := [numI s.w.toNat, numI s.q.toNat, numI s.d.toNat, ⟨6, 0, 0, false, s.nm, 0⟩, numI s.gn.toNat, numI s.sz.toNat, numI s.fl.toNat, numI s.bt.toNat, ⟨5, 0, 0, false, s.pv, 0⟩]
theorem put_numI (bs : List UInt8) (n : Nat) : put1 (bs, 0) (numI n) = (bs ++ num n, 0) := by rw [put_some (y := num n) rfl, if_pos rfl]
theorem encS_valI {s : Snap} (hs : Valid s) (bs : List UInt8) : (valI s).foldl put1 (bs, 0) = (bs ++ encP s, 0) := by
  have e1 : ∀ bs : List UInt8, put1 (bs, 0) ⟨6, 0, 0, false, s.nm, 0⟩ = (bs ++ s.nm, 0) := fun bs => by
    rw [put_some (y := s.nm) (by simp [enc1, hs.nm]), if_pos rfl]
  have e2 : ∀ bs : List UInt8, put1 (bs, 0) ⟨5, 0, 0, false, s.pv, 0⟩ = (bs ++ (num s.pv.length ++ s.pv), 0) := fun bs => by
    rw [put_some (y := num s.pv.length ++ s.pv) rfl, if_pos rfl]
  simp only [valI, List.foldl_cons, List.foldl_nil, put_numI, e1, e2, encP, List.append_assoc]
theorem numI_ok {n : Nat} (h : n ≤ 18446744073709551615) : (numI n).Ok := ⟨h, by show _ ≤ (0 : Int); omega, by show (0 : Int) ≤ _; omega, by show _ ≤ (1 : Int); omega, by show (1 : Int) ≤ _; omega, by show _ ≤ (0 : Int); omega, by show (0 : Int) ≤ _; omega, by show 0 ≤ _; omega⟩
theorem strI_ok {k : Int} {s : Str} (hk : 0 ≤ k ∧ k ≤ 7) (h : s.length ≤ 1000000) : (⟨k, 0, 0, false, s, 0⟩ : Item).Ok := ⟨by show 0 ≤ _; omega, by show _ ≤ (0 : Int); omega, by show (0 : Int) ≤ _; omega, by show _ ≤ k; omega, by show k ≤ _; omega, by show _ ≤ (0 : Int); omega, by show (0 : Int) ≤ _; omega, by show s.length ≤ _; omega⟩
theorem valI_ok {s : Snap} (hs : Valid s) : ∀ x ∈ valI s, x.Ok ∧ x.s.length ≤ 100000 := by
  have hpv := hs.pv_le
  obtain ⟨v1, v2, v3, v4, v5, v6, v7, v8, _, _⟩ := hs
  intro x hx
  simp only [valI, List.mem_cons, List.not_mem_nil, or_false] at hx
  rcases hx with rfl | rfl | rfl | rfl | rfl | rfl | rfl | rfl | rfl
  · exact ⟨numI_ok (by omega), Nat.zero_le _⟩
  · exact ⟨numI_ok (by omega), Nat.zero_le _⟩
  · exact ⟨numI_ok (by omega), Nat.zero_le _⟩
  · exact ⟨strI_ok (by omega) (by omega), by show s.nm.length ≤ _; omega⟩
  · exact ⟨numI_ok (by omega), Nat.zero_le _⟩
  · exact ⟨numI_ok (by omega), Nat.zero_le _⟩
  · exact ⟨numI_ok (by omega), Nat.zero_le _⟩
  · exact ⟨numI_ok (by omega), Nat.zero_le _⟩
  · exact ⟨strI_ok (by omega) (by omega), by show s.pv.length ≤ _; omega⟩

def items (l : List Item) : List Value := l.flatMap Item.cells
theorem items_length (l : List Item) : (items l).length = l.length * 6 := flat_len fun _ _ => rfl
theorem rdRo {R : Rd} {h : Hp} {g : Nat} {cs : List Value} (hc : ∀ (j : Nat) (u : Value), cs[j]? = some u → RH R h ⟨g, j, .none⟩ u) : ∀ j u, cs[j]? = some u → RH R h ((⟨g, 0, .none⟩ : Addr).add j) u := by
  intro j u hu
  rw [add_zero_addr]
  exact hc j u hu

set_option maxRecDepth 100000 in
set_option maxHeartbeats 4000000 in
theorem values_ok (R : Rd) (s : Snap) (hs : Valid s) : Fn Tryd.prog 186 [.agg ⟨s.cells⟩] [] R (fun v h => ∃ g, v = .slice (some ⟨g, 0, .none⟩) 9 9 ∧ h = [.row (some ⟨g, 0, .none⟩) 9 9 265 6 (items (valI s)) (0, 0)]) := by
  obtain ⟨v1, v2, v3, v4, v5, v6, v7, v8, _, _⟩ := hs
  obtain ⟨n1, e1⟩ := Int.eq_ofNat_of_zero_le v1.1
  obtain ⟨n2, e2⟩ := Int.eq_ofNat_of_zero_le (show 0 ≤ s.q by omega)
  obtain ⟨n3, e3⟩ := Int.eq_ofNat_of_zero_le v3.1
  obtain ⟨n5, e5⟩ := Int.eq_ofNat_of_zero_le v5.1
  obtain ⟨n6, e6⟩ := Int.eq_ofNat_of_zero_le v6.1
  obtain ⟨n7, e7⟩ := Int.eq_ofNat_of_zero_le v7.1
  obtain ⟨n8, e8⟩ := Int.eq_ofNat_of_zero_le v8.1
  obtain ⟨w, q, d, nm, gn, sz, fl, bt, pv, hd⟩ := s
  simp only at e1 e2 e3 e5 e6 e7 e8 v1 v2 v3 v4 v5 v6 v7 v8
  subst e1 e2 e3 e5 e6 e7 e8
  refine fn_of_vc mixed tabOk Tryd.func186 rfl (by kernel_rfl) (Nat.le_of_ble_eq_true rfl) ?_
  intro g
  refine ⟨[0], (.q 0 (.q 1 (.q 3 (.q 4 (.q 6 (.q 7 (.q 9 (.q 10 (.q 11 (.q 12 (.q 13 (.q 14 (.q 15 (.q 17 (.q 18 (.q 19 (.q 21 (.q 22 (.q 24 (.q 25 (.q 27 (.q 28 (.q 29 (.one 2 (.one 5 (.one 8 (.one 16 (.one 20 (.one 23 (.one 26 (.one 30 (.q 31 .nil)))))))))))))))))))))))))))))))), by kernel_rfl, ?_⟩
  refine ⟨_, ld 0 rfl rfl, ?_⟩
  refine ⟨_, ld 0 rfl rfl, ?_⟩
  refine ⟨_, ld 0 rfl rfl, ?_⟩
  refine ⟨_, ld 0 rfl rfl, ?_⟩
  refine ⟨_, ld 0 rfl rfl, ?_⟩
  refine ⟨_, ld 0 rfl rfl, ?_⟩
  refine ⟨_, ld 0 rfl rfl, ?_⟩
  refine ⟨_, ld 0 rfl rfl, ?_⟩
  refine ⟨_, ld 0 rfl rfl, ?_⟩
  refine ⟨[], _, number_ok2 _ n1 (by omega), ?_⟩
  rintro _ _ ⟨rfl, rfl⟩
  refine ⟨[], _, number_ok2 _ n2 (by omega), ?_⟩
  rintro _ _ ⟨rfl, rfl⟩
  refine ⟨[], _, number_ok2 _ n3 (by omega), ?_⟩
  rintro _ _ ⟨rfl, rfl⟩
  refine ⟨[], _, number_ok2 _ n5 (by omega), ?_⟩
  rintro _ _ ⟨rfl, rfl⟩
  refine ⟨[], _, number_ok2 _ n6 (by omega), ?_⟩
  rintro _ _ ⟨rfl, rfl⟩
  refine ⟨[], _, number_ok2 _ n7 (by omega), ?_⟩
  rintro _ _ ⟨rfl, rfl⟩
  refine ⟨[], _, number_ok2 _ n8 (by omega), ?_⟩
  rintro _ _ ⟨rfl, rfl⟩
  refine ⟨rfl, fun gv => ?_⟩
  exact ⟨[.row (some ⟨gv, 0, .none⟩) 9 9 265 6 (items (valI ⟨n1, n2, n3, nm, n5, n6, n7, n8, pv, hd⟩)) (0, 0)], by first | exact Ent.pick [0] rfl | exact Ent.pick [1] rfl, gv, rfl, rfl⟩

theorem refSum26_ok (R : Rd) (s : Snap) (hs : Valid s) : Fn Tryd.prog 167 [.agg ⟨s.cells⟩] [] R (fun v h => v = .string ⟨⟨sumP s⟩⟩ ∧ h = []) := by
  have hle := encP_le hs
  have he : encS (valI s) = (encP s, 0) := encS_valI hs []
  refine fn_of_vc mixed tabOk Tryd.func167 rfl (by kernel_rfl) (Nat.le_of_ble_eq_true rfl) ?_
  intro g
  refine ⟨s.cells, rdBlk 0 rfl, rfl, ?_⟩
  refine ⟨[], _, values_ok _ s hs, ?_⟩
  rintro _ _ ⟨gv, rfl, rfl⟩
  refine ⟨[], _, refEncode_w _ _ (valI s) (fun x hx => (valI_ok hs x hx).1) (by show 9 ≤ _; omega) (fun x hx => (valI_ok hs x hx).2) (SlR.own 1 rfl rfl (.inr ⟨gv, rfl⟩)), ?_⟩
  rw [he]
  have e1 : doneB (encP s) 0 = encP s := by rw [doneB, if_pos ⟨rfl, by omega⟩]
  rw [e1]
  rintro _ _ ⟨sl, rfl, A2, k2, cap2, xs2, rfl, rfl, hk2, hx2, hg2⟩
  refine ⟨[], _, refSum_ok _ (encP s) _ (by omega) (BsR.own 2 rfl hk2 hx2 hg2), ?_⟩
  rintro _ _ ⟨rfl, rfl⟩
  exact ⟨_, Ent.nil _, rfl, rfl⟩

/-! ### the last record of a writer -/
theorem drop_at {α : Type} {l : List α} {i : Nat} {x : α} (h : l[i]? = some x) : l.drop i = x :: l.drop (i + 1) := by
  obtain ⟨hlt, e⟩ := List.getElem?_eq_some_iff.1 h
  rw [List.drop_eq_getElem_cons hlt, e]
theorem find_last {α : Type} {p : α → Bool} {l : List α} {i : Nat} {x : α} (hx : l[i]? = some x) (hp : p x = true) (h : ∀ (j : Nat) (y : α), i < j → l[j]? = some y → p y = false) : l.reverse.find? p = some x := by
  have e : l.take i ++ (x :: l.drop (i + 1)) = l := by rw [← drop_at hx, List.take_append_drop]
  have hc : (l.drop (i + 1)).reverse.find? p = .none := List.find?_eq_none.2 fun y hy => by
    obtain ⟨j, hj⟩ := List.getElem?_of_mem (List.mem_reverse.1 hy)
    rw [List.getElem?_drop] at hj
    rw [h (i + 1 + j) y (by omega) hj]; decide
  rw [← e, List.reverse_append, List.reverse_cons, List.append_assoc, List.find?_append, hc]
  simp [hp]
theorem find_no {α : Type} {p : α → Bool} {l : List α} (h : ∀ (j : Nat) (y : α), l[j]? = some y → p y = false) : l.reverse.find? p = .none := by
  refine List.find?_eq_none.2 fun y hy => ?_
  obtain ⟨j, hj⟩ := List.getElem?_of_mem (List.mem_reverse.1 hy)
  rw [h j y hj]; decide
theorem rLast_eq (l : List Snap) (w : Int) : rLast l w = lastW l w := by
  unfold rLast lastW
  rw [List.getLast?_eq_head?_reverse, List.filter_reverse.symm, List.head?_filter]

theorem reflast_ok (R : Rd) {A : Option Addr} {cap : Nat} {l : List Snap} (hs : SlR R 10 (.slice A l.length cap) l.length (snaps l)) (hn : l.length ≤ 1000000) (w : Int) :
    Fn Tryd.prog 165 [.slice A l.length cap, .int .i64 w] [] R (fun v h => v = .tuple ⟨[.agg ⟨((rLast l w).getD Snap.zero).cells⟩, .bool (rLast l w).isSome]⟩ ∧ h = []) := by
  refine fn_of_vc mixed tabOk Tryd.func165 rfl (by kernel_rfl) (Nat.le_of_ble_eq_true rfl) ?_
  intro g
  (intro z hz; obtain rfl := wr_i64 hz (by omega) (by omega); clear hz)
  refine ⟨[none, none, none, none, none, some 5, some 6, none, none, none, some 10, some 11, some 12, some 13, some 14, some 15, some 16, some 17, some 18, some 19, some 20, some 21, some 22, some 23, some 24], [6], Nat, fun k => k ≤ l.length ∧ ∀ j y, k ≤ j → l[j]? = some y → decide (y.w = w) = false, fun k => [.int .i64 ((k : Int) - 1)], fun k => [.blk g 140 Snap.zero.cells], fun k => k,
    l.length, ⟨Nat.le_refl _, fun j y hj hy => by have := (List.getElem?_eq_some_iff.1 hy).1; omega⟩, ⟨rfl, trivial⟩, Ent.refl _, ?_⟩
  rintro k ⟨hk, hall⟩ js
  refine ⟨fun hb0 => ?_, fun hb0 => ?_⟩
  · have hk0 : (0 : Int) ≤ (k : Int) - 1 := of_decide_eq_true hb0
    obtain ⟨i, rfl⟩ : ∃ i, k = i + 1 := ⟨k - 1, by omega⟩
    have hil : i < l.length := by omega
    have hget := List.getElem?_eq_getElem hil
    generalize l[i] = x at hget
    have hii : ((i + 1 : Nat) : Int) - 1 = (i : Int) := by omega
    rw [hii]
    obtain ⟨a, rfl, hr⟩ := slr_at (c := Snap.cells) (fun _ => rfl) (by omega) hs hget
    refine ⟨by omega, by omega, a, rfl, ?_⟩
    refine ⟨_, .inl (fldS (hr 0 _ rfl)), ?_⟩
    by_cases hw : x.w = w
    · repeat (first | (refine ⟨fun h => ?_, fun h => ?_⟩; rotate_left 1; (focus (exfalso; (first | (with_reducible (cases h; done)) | (revert h; simp; done) | (revert h; simp; omega) | (revert h; simp [*]; done)))); clear h) | (refine ⟨fun h => ?_, fun h => ?_⟩; (focus (exfalso; (first | (with_reducible (cases h; done)) | (revert h; simp; done) | (revert h; simp; omega) | (revert h; simp [*]; done)))); clear h))
      refine ⟨by omega, by omega, a, rfl, ?_⟩
      refine ⟨x.cells, fun j u hu => .inl (rdnS (vs := x.cells) (fun j u hu => hr j u hu) j u hu), rfl, ?_⟩
      refine ⟨rfl, rfl, 0, rfl, rfl, Nat.le_of_ble_eq_true rfl, ?_⟩
      refine ⟨x.cells, rdBlk 0 rfl, rfl, ?_⟩
      have e : rLast l w = some x := find_last hget (decide_eq_true hw) fun j y hj hy => hall j y hj hy
      exact ⟨_, Ent.nil _, by rw [e]; rfl, rfl⟩
    · repeat (first | (refine ⟨fun h => ?_, fun h => ?_⟩; rotate_left 1; (focus (exfalso; (first | (with_reducible (cases h; done)) | (revert h; simp; done) | (revert h; simp; omega) | (revert h; simp [*]; done)))); clear h) | (refine ⟨fun h => ?_, fun h => ?_⟩; (focus (exfalso; (first | (with_reducible (cases h; done)) | (revert h; simp; done) | (revert h; simp; omega) | (revert h; simp [*]; done)))); clear h))
      (intro z hz; obtain rfl := wr_i64 hz (by omega) (by omega); clear hz)
      refine ⟨rfl, i, ⟨by omega, fun j y hj hy => ?_⟩, by show i < i + 1; omega, ⟨rfl, trivial⟩, Ent.refl _, rfl⟩
      by_cases hji : j = i
      · subst hji; rw [hget] at hy; cases hy; exact decide_eq_false hw
      · exact hall j y (by omega) hy
  · have hk0 : ¬ (0 : Int) ≤ (k : Int) - 1 := of_decide_eq_false hb0
    obtain rfl : k = 0 := by omega
    refine ⟨rfl, rfl, 0, rfl, rfl, Nat.le_of_ble_eq_true rfl, ?_⟩
    refine ⟨Snap.zero.cells, rdBlk 0 rfl, rfl, ?_⟩
    have e : rLast l w = .none := find_no fun j y hy => hall j y (Nat.zero_le _) hy
    exact ⟨_, Ent.nil _, by rw [e]; rfl, rfl⟩

set_option maxRecDepth 100000 in
set_option maxHeartbeats 4000000 in
theorem refContinues_ok (R : Rd) {A : Option Addr} {cap : Nat} {l : List Snap} (hs : SlR R 10 (.slice A l.length cap) l.length (snaps l)) (hn : l.length ≤ 1000000) (hv : ∀ x ∈ l, Valid x) (s : Snap) (hq1 : -9223372036854775808 ≤ s.q) (hq2 : s.q ≤ 9223372036854775807) :
    Fn Tryd.prog 171 [.slice A l.length cap, .agg ⟨s.cells⟩] [] R (fun v h => v = .bool (validB s && contB s (rLast l s.w)) ∧ h = []) := by
  refine fn_of_vc mixed tabOk Tryd.func171 rfl (by kernel_rfl) (Nat.le_of_ble_eq_true rfl) ?_
  intro g3
  refine ⟨s.cells, rdBlk 0 rfl, rfl, ?_⟩
  refine ⟨[], _, refValid_ok _ s hq1 hq2, ?_⟩
  rintro _ _ ⟨rfl, rfl⟩
  cases hvs : validB s
  · repeat (first | (refine ⟨fun h => ?_, fun h => ?_⟩; rotate_left 1; (focus (exfalso; (first | (with_reducible (cases h; done)) | (revert h; simp; done) | (revert h; simp; omega) | (revert h; simp [*]; done)))); clear h) | (refine ⟨fun h => ?_, fun h => ?_⟩; (focus (exfalso; (first | (with_reducible (cases h; done)) | (revert h; simp; done) | (revert h; simp; omega) | (revert h; simp [*]; done)))); clear h))
    exact ⟨_, Ent.nil _, rfl, rfl⟩
  rw [Bool.true_and]
  repeat (first | (refine ⟨fun h => ?_, fun h => ?_⟩; rotate_left 1; (focus (exfalso; (first | (with_reducible (cases h; done)) | (revert h; simp; done) | (revert h; simp; omega) | (revert h; simp [*]; done)))); clear h) | (refine ⟨fun h => ?_, fun h => ?_⟩; (focus (exfalso; (first | (with_reducible (cases h; done)) | (revert h; simp; done) | (revert h; simp; omega) | (revert h; simp [*]; done)))); clear h))
  refine ⟨_, ld 0 rfl rfl, ?_⟩
  refine ⟨[], _, reflast_ok _ (hs.mono fun _ _ => .inl) hn s.w, ?_⟩
  rintro _ _ ⟨rfl, rfl⟩
  cases hl : rLast l s.w with
  | none =>
    intro g5
    refine ⟨rfl, rfl, 1, rfl, rfl, Nat.le_of_ble_eq_true rfl, ?_⟩
    repeat (first | (refine ⟨fun h => ?_, fun h => ?_⟩; rotate_left 1; (focus (exfalso; (first | (with_reducible (cases h; done)) | (revert h; simp; done) | (revert h; simp; omega) | (revert h; simp [*]; done)))); clear h) | (refine ⟨fun h => ?_, fun h => ?_⟩; (focus (exfalso; (first | (with_reducible (cases h; done)) | (revert h; simp; done) | (revert h; simp; omega) | (revert h; simp [*]; done)))); clear h))
    refine ⟨_, ld 0 rfl rfl, ?_⟩
    exact ⟨_, Ent.nil _, rfl, rfl⟩
  | some p =>
    have hp : Valid p := hv p (List.mem_reverse.1 (List.mem_of_find?_eq_some hl))
    have hpq := hp.q
    rw [show (some p).getD Snap.zero = p from rfl]
    intro g5
    refine ⟨rfl, rfl, 1, rfl, rfl, Nat.le_of_ble_eq_true rfl, ?_⟩
    repeat (first | (refine ⟨fun h => ?_, fun h => ?_⟩; rotate_left 1; (focus (exfalso; (first | (with_reducible (cases h; done)) | (revert h; simp; done) | (revert h; simp; omega) | (revert h; simp [*]; done)))); clear h) | (refine ⟨fun h => ?_, fun h => ?_⟩; (focus (exfalso; (first | (with_reducible (cases h; done)) | (revert h; simp; done) | (revert h; simp; omega) | (revert h; simp [*]; done)))); clear h))
    refine ⟨[0,0], (.q 0 (.q 1 (.q 2 (.q 3 (.q 4 (.q 5 (.q 6 (.q 7 (.q 8 (.q 9 (.one 10 (.q 11 (.q 12 (.q 13 (.q 14 (.q 15 (.q 16 (.q 17 (.q 18 (.q 19 (.q 20 .nil))))))))))))))))))))), by kernel_rfl, ?_⟩
    refine ⟨_, ld 0 rfl rfl, ?_⟩
    refine ⟨_, ld 1 rfl rfl, ?_⟩
    (intro z hz; obtain rfl := wr_i64 hz (by omega) (by omega); clear hz)
    have ec : contB s (some p) = (decide (s.q = p.q + 1) && (decide (p.d ≤ s.d) && decide (s.pv = sumP p))) := rfl
    rw [ec]
    by_cases h1 : s.q = p.q + 1
    case neg =>
      repeat (first | (refine ⟨fun h => ?_, fun h => ?_⟩; rotate_left 1; (focus (exfalso; (first | (with_reducible (cases h; done)) | (revert h; simp; done) | (revert h; simp; omega) | (revert h; simp [*]; done)))); clear h) | (refine ⟨fun h => ?_, fun h => ?_⟩; (focus (exfalso; (first | (with_reducible (cases h; done)) | (revert h; simp; done) | (revert h; simp; omega) | (revert h; simp [*]; done)))); clear h))
      refine ⟨_, Ent.nil _, ?_, rfl⟩
      rw [decide_eq_false h1, Bool.false_and]; rfl
    rw [decide_eq_true h1, Bool.true_and]
    repeat (first | (refine ⟨fun h => ?_, fun h => ?_⟩; rotate_left 1; (focus (exfalso; (first | (with_reducible (cases h; done)) | (revert h; simp; done) | (revert h; simp; omega) | (revert h; simp [*]; done)))); clear h) | (refine ⟨fun h => ?_, fun h => ?_⟩; (focus (exfalso; (first | (with_reducible (cases h; done)) | (revert h; simp; done) | (revert h; simp; omega) | (revert h; simp [*]; done)))); clear h))
    refine ⟨_, ld 0 rfl rfl, ?_⟩
    repeat (first | (refine ⟨fun h => ?_, fun h => ?_⟩; rotate_left 1; (focus (exfalso; (first | (with_reducible (cases h; done)) | (revert h; simp; done) | (revert h; simp; omega) | (revert h; simp [*]; done)))); clear h) | (refine ⟨fun h => ?_, fun h => ?_⟩; (focus (exfalso; (first | (with_reducible (cases h; done)) | (revert h; simp; done) | (revert h; simp; omega) | (revert h; simp [*]; done)))); clear h))
    refine ⟨p.cells, rdBlk 1 rfl, rfl, ?_⟩
    repeat (first | (refine ⟨fun h => ?_, fun h => ?_⟩; rotate_left 1; (focus (exfalso; (first | (with_reducible (cases h; done)) | (revert h; simp; done) | (revert h; simp; omega) | (revert h; simp [*]; done)))); clear h) | (refine ⟨fun h => ?_, fun h => ?_⟩; (focus (exfalso; (first | (with_reducible (cases h; done)) | (revert h; simp; done) | (revert h; simp; omega) | (revert h; simp [*]; done)))); clear h))
    refine ⟨[], _, refSum26_ok _ p hp, ?_⟩
    rintro _ _ ⟨rfl, rfl⟩
    by_cases h2 : s.pv = sumP p
    case neg =>
      repeat (first | (refine ⟨fun h => ?_, fun h => ?_⟩; rotate_left 1; (focus (exfalso; (first | (with_reducible (cases h; done)) | (revert h; simp; done) | (revert h; simp; omega) | (revert h; simp [*]; done)))); clear h) | (refine ⟨fun h => ?_, fun h => ?_⟩; (focus (exfalso; (first | (with_reducible (cases h; done)) | (revert h; simp; done) | (revert h; simp; omega) | (revert h; simp [*]; done)))); clear h))
      refine ⟨_, Ent.nil _, ?_, rfl⟩
      rw [decide_eq_false h2, Bool.and_false]; rfl
    rw [decide_eq_true h2, Bool.and_true]
    repeat (first | (refine ⟨fun h => ?_, fun h => ?_⟩; rotate_left 1; (focus (exfalso; (first | (with_reducible (cases h; done)) | (revert h; simp; done) | (revert h; simp; omega) | (revert h; simp [*]; done)))); clear h) | (refine ⟨fun h => ?_, fun h => ?_⟩; (focus (exfalso; (first | (with_reducible (cases h; done)) | (revert h; simp; done) | (revert h; simp; omega) | (revert h; simp [*]; done)))); clear h))
    refine ⟨_, ld 0 rfl rfl, ?_⟩
    repeat (first | (refine ⟨fun h => ?_, fun h => ?_⟩; rotate_left 1; (focus (exfalso; (first | (with_reducible (cases h; done)) | (revert h; simp; done) | (revert h; simp; omega) | (revert h; simp [*]; done)))); clear h) | (refine ⟨fun h => ?_, fun h => ?_⟩; (focus (exfalso; (first | (with_reducible (cases h; done)) | (revert h; simp; done) | (revert h; simp; omega) | (revert h; simp [*]; done)))); clear h))
    refine ⟨_, ld 1 rfl rfl, ?_⟩
    repeat (first | (refine ⟨fun h => ?_, fun h => ?_⟩; rotate_left 1; (focus (exfalso; (first | (with_reducible (cases h; done)) | (revert h; simp; done) | (revert h; simp; omega) | (revert h; simp [*]; done)))); clear h) | (refine ⟨fun h => ?_, fun h => ?_⟩; (focus (exfalso; (first | (with_reducible (cases h; done)) | (revert h; simp; done) | (revert h; simp; omega) | (revert h; simp [*]; done)))); clear h))
    exact ⟨_, Ent.nil _, rfl, rfl⟩

theorem SlR.sub {R : Rd} {α : Type} {c : α → List Value} {sz : Nat} (hsz : ∀ x, (c x).length = sz) (h0 : 0 < sz) {A : Option Addr} {cap : Nat} {l : List α} (h : SlR R sz (.slice A l.length cap) l.length (l.flatMap c)) {a b : Nat} (h1 : a ≤ b) (h2 : b ≤ l.length) (hc : l.length ≤ cap) :
    SlR R sz (.slice (sliceBase A cap a sz) (b - a) (cap - a)) (b - a) (((l.drop a).take (b - a)).flatMap c) := by
  have hl : ((l.drop a).take (b - a)).length = b - a := by rw [List.length_take, List.length_drop]; omega
  refine ⟨by rw [flat_len (sz := sz) fun x _ => hsz x, hl], _, _, rfl, fun j u hu => ?_⟩
  obtain ⟨i, x, k, hi, hk, rfl⟩ := flat_get (sz := sz) (fun x _ => hsz x) hu
  have hil := (List.getElem?_eq_some_iff.1 hi).1
  rw [List.getElem?_take_of_lt (by omega), List.getElem?_drop] at hi
  obtain ⟨ad, rfl, hr⟩ := slr_at hsz h0 h hi
  refine ⟨ad.add (a * sz), ?_, ?_⟩
  · unfold sliceBase
    rw [if_neg (by omega)]; rfl
  · rw [add_add, ← Nat.add_assoc, ← Nat.add_mul]
    exact hr k u hk
theorem SlR.pre {R : Rd} {α : Type} {c : α → List Value} {sz : Nat} (hsz : ∀ x, (c x).length = sz) (h0 : 0 < sz) {A : Option Addr} {cap : Nat} {l : List α} (h : SlR R sz (.slice A l.length cap) l.length (l.flatMap c)) {b : Nat} (h2 : b ≤ l.length) (hc : l.length ≤ cap) :
    SlR R sz (.slice (sliceBase A cap 0 sz) (b - 0) (cap - 0)) (b - 0) ((l.take b).flatMap c) := by
  have := SlR.sub hsz h0 h (Nat.zero_le b) h2 hc
  rw [List.drop_zero] at this
  exact this

end Go.Proofs.YtoddabjacjkjbaaDoor
