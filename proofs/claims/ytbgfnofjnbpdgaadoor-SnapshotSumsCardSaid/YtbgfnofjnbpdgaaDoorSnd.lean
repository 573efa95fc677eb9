/-
  Contracts: records of snapshots (package snapshot).
-/
import Derived.Test.YtbgfnofjnbpdgaaDoorSnb
import Derived.Test.YtbgfnofjnbpdgaaDoorWrb
import Derived.Test.YtbgfnofjnbpdgaaDoorShf
namespace Go.Proofs.YtbgfnofjnbpdgaaDoor
open Go Go.RowKit
set_option linter.unusedVariables false

theorem rdBlk {R : Rd} {h : Hp} (i : Nat) {g : Nat} {t : TypeId} {cs : List Value} (hi : h[i]? = some (.blk g t cs)) : ∀ j u, cs[j]? = some u → RH R h ((⟨g, 0, .none⟩ : Addr).add j) u := by
  intro j u hu
  rw [add_zero_addr]
  exact ld i hi hu

theorem within_ok (R : Rd) (n lo hi : Int) : Fn Tryd.prog 75 [.int .i64 n, .int .i64 lo, .int .i64 hi] [] R (fun v h => v = .bool (inB n lo hi) ∧ h = []) := by
  refine fn_of_vc mixed tabOk Tryd.func75 rfl (by kernel_rfl) (Nat.le_of_ble_eq_true rfl) ?_
  by_cases h1 : lo ≤ n
  · have e : inB n lo hi = decide (n ≤ hi) := by rw [inB, decide_eq_true h1, Bool.true_and]
    repeat (first | (refine ⟨fun h => ?_, fun h => ?_⟩; rotate_left 1; (focus (exfalso; (first | (with_reducible (cases h; done)) | (revert h; simp; done) | (revert h; simp; omega) | (revert h; simp [*]; done)))); clear h) | (refine ⟨fun h => ?_, fun h => ?_⟩; (focus (exfalso; (first | (with_reducible (cases h; done)) | (revert h; simp; done) | (revert h; simp; omega) | (revert h; simp [*]; done)))); clear h))
    exact ⟨_, Ent.refl _, by rw [e]; rfl, rfl⟩
  · have e : inB n lo hi = false := by rw [inB, decide_eq_false h1, Bool.false_and]
    repeat (first | (refine ⟨fun h => ?_, fun h => ?_⟩; rotate_left 1; (focus (exfalso; (first | (with_reducible (cases h; done)) | (revert h; simp; done) | (revert h; simp; omega) | (revert h; simp [*]; done)))); clear h) | (refine ⟨fun h => ?_, fun h => ?_⟩; (focus (exfalso; (first | (with_reducible (cases h; done)) | (revert h; simp; done) | (revert h; simp; omega) | (revert h; simp [*]; done)))); clear h))
    refine ⟨_, Ent.refl _, ?_, rfl⟩
    rw [e]; first | rfl | (show Value.bool (decide _) = _; rw [decide_eq_false h1])

set_option maxRecDepth 100000 in
set_option maxHeartbeats 1000000 in
theorem valid_ok (R : Rd) (s : Snap) : Fn Tryd.prog 41 [.agg ⟨s.cells⟩] [] R (fun v h => v = .bool (validB s) ∧ h = []) := by
  refine fn_of_vc mixed tabOk Tryd.func41 rfl (by kernel_rfl) (Nat.le_of_ble_eq_true rfl) ?_
  intro g
  refine ⟨_, ld 0 rfl rfl, ?_⟩
  refine ⟨[], _, within_ok _ _ _ _, ?_⟩
  rintro _ _ ⟨rfl, rfl⟩
  cases h1 : inB s.w 0 11
  · have e : validB s = false := by rw [validB, h1, Bool.false_and]
    repeat (first | (refine ⟨fun h => ?_, fun h => ?_⟩; rotate_left 1; (focus (exfalso; (first | (with_reducible (cases h; done)) | (revert h; simp; done) | (revert h; simp; omega) | (revert h; simp [*]; done)))); clear h) | (refine ⟨fun h => ?_, fun h => ?_⟩; (focus (exfalso; (first | (with_reducible (cases h; done)) | (revert h; simp; done) | (revert h; simp; omega) | (revert h; simp [*]; done)))); clear h))
    exact ⟨_, Ent.nil _, by rw [e]; rfl, rfl⟩
  repeat (first | (refine ⟨fun h => ?_, fun h => ?_⟩; rotate_left 1; (focus (exfalso; (first | (with_reducible (cases h; done)) | (revert h; simp; done) | (revert h; simp; omega) | (revert h; simp [*]; done)))); clear h) | (refine ⟨fun h => ?_, fun h => ?_⟩; (focus (exfalso; (first | (with_reducible (cases h; done)) | (revert h; simp; done) | (revert h; simp; omega) | (revert h; simp [*]; done)))); clear h))
  refine ⟨_, ld 0 rfl rfl, ?_⟩
  repeat (first | (refine ⟨fun h => ?_, fun h => ?_⟩; rotate_left 1; (focus (exfalso; (first | (with_reducible (cases h; done)) | (revert h; simp; done) | (revert h; simp; omega) | (revert h; simp [*]; done)))); clear h) | (refine ⟨fun h => ?_, fun h => ?_⟩; (focus (exfalso; (first | (with_reducible (cases h; done)) | (revert h; simp; done) | (revert h; simp; omega) | (revert h; simp [*]; done)))); clear h))
  refine ⟨[], _, within_ok _ _ _ _, ?_⟩
  rintro _ _ ⟨rfl, rfl⟩
  cases h2 : inB s.q 1 1099511627776
  · have e : validB s = false := by rw [validB, h1, h2, Bool.true_and, Bool.false_and]
    repeat (first | (refine ⟨fun h => ?_, fun h => ?_⟩; rotate_left 1; (focus (exfalso; (first | (with_reducible (cases h; done)) | (revert h; simp; done) | (revert h; simp; omega) | (revert h; simp [*]; done)))); clear h) | (refine ⟨fun h => ?_, fun h => ?_⟩; (focus (exfalso; (first | (with_reducible (cases h; done)) | (revert h; simp; done) | (revert h; simp; omega) | (revert h; simp [*]; done)))); clear h))
    exact ⟨_, Ent.nil _, by rw [e]; rfl, rfl⟩
  repeat (first | (refine ⟨fun h => ?_, fun h => ?_⟩; rotate_left 1; (focus (exfalso; (first | (with_reducible (cases h; done)) | (revert h; simp; done) | (revert h; simp; omega) | (revert h; simp [*]; done)))); clear h) | (refine ⟨fun h => ?_, fun h => ?_⟩; (focus (exfalso; (first | (with_reducible (cases h; done)) | (revert h; simp; done) | (revert h; simp; omega) | (revert h; simp [*]; done)))); clear h))
  refine ⟨_, ld 0 rfl rfl, ?_⟩
  repeat (first | (refine ⟨fun h => ?_, fun h => ?_⟩; rotate_left 1; (focus (exfalso; (first | (with_reducible (cases h; done)) | (revert h; simp; done) | (revert h; simp; omega) | (revert h; simp [*]; done)))); clear h) | (refine ⟨fun h => ?_, fun h => ?_⟩; (focus (exfalso; (first | (with_reducible (cases h; done)) | (revert h; simp; done) | (revert h; simp; omega) | (revert h; simp [*]; done)))); clear h))
  refine ⟨[], _, within_ok _ _ _ _, ?_⟩
  rintro _ _ ⟨rfl, rfl⟩
  cases h3 : inB s.d 0 999999
  · have e : validB s = false := by rw [validB, h1, h2, h3]; rfl
    repeat (first | (refine ⟨fun h => ?_, fun h => ?_⟩; rotate_left 1; (focus (exfalso; (first | (with_reducible (cases h; done)) | (revert h; simp; done) | (revert h; simp; omega) | (revert h; simp [*]; done)))); clear h) | (refine ⟨fun h => ?_, fun h => ?_⟩; (focus (exfalso; (first | (with_reducible (cases h; done)) | (revert h; simp; done) | (revert h; simp; omega) | (revert h; simp [*]; done)))); clear h))
    exact ⟨_, Ent.nil _, by rw [e]; rfl, rfl⟩
  repeat (first | (refine ⟨fun h => ?_, fun h => ?_⟩; rotate_left 1; (focus (exfalso; (first | (with_reducible (cases h; done)) | (revert h; simp; done) | (revert h; simp; omega) | (revert h; simp [*]; done)))); clear h) | (refine ⟨fun h => ?_, fun h => ?_⟩; (focus (exfalso; (first | (with_reducible (cases h; done)) | (revert h; simp; done) | (revert h; simp; omega) | (revert h; simp [*]; done)))); clear h))
  refine ⟨_, ld 0 rfl rfl, ?_⟩
  by_cases h4 : (s.nm.length : Int) = 32
  case neg =>
    have e : validB s = false := by rw [validB, h1, h2, h3, decide_eq_false (by omega : ¬ s.nm.length = 32)]; rfl
    repeat (first | (refine ⟨fun h => ?_, fun h => ?_⟩; rotate_left 1; (focus (exfalso; (first | (with_reducible (cases h; done)) | (revert h; simp; done) | (revert h; simp; omega) | (revert h; simp [*]; done)))); clear h) | (refine ⟨fun h => ?_, fun h => ?_⟩; (focus (exfalso; (first | (with_reducible (cases h; done)) | (revert h; simp; done) | (revert h; simp; omega) | (revert h; simp [*]; done)))); clear h))
    exact ⟨_, Ent.nil _, by rw [e]; rfl, rfl⟩
  have h4' : decide (s.nm.length = 32) = true := decide_eq_true (by omega)
  repeat (first | (refine ⟨fun h => ?_, fun h => ?_⟩; rotate_left 1; (focus (exfalso; (first | (with_reducible (cases h; done)) | (revert h; simp; done) | (revert h; simp; omega) | (revert h; simp [*]; done)))); clear h) | (refine ⟨fun h => ?_, fun h => ?_⟩; (focus (exfalso; (first | (with_reducible (cases h; done)) | (revert h; simp; done) | (revert h; simp; omega) | (revert h; simp [*]; done)))); clear h))
  refine ⟨_, ld 0 rfl rfl, ?_⟩
  repeat (first | (refine ⟨fun h => ?_, fun h => ?_⟩; rotate_left 1; (focus (exfalso; (first | (with_reducible (cases h; done)) | (revert h; simp; done) | (revert h; simp; omega) | (revert h; simp [*]; done)))); clear h) | (refine ⟨fun h => ?_, fun h => ?_⟩; (focus (exfalso; (first | (with_reducible (cases h; done)) | (revert h; simp; done) | (revert h; simp; omega) | (revert h; simp [*]; done)))); clear h))
  refine ⟨[], _, within_ok _ _ _ _, ?_⟩
  rintro _ _ ⟨rfl, rfl⟩
  cases h5 : inB s.gn 0 1099511627776
  · have e : validB s = false := by rw [validB, h1, h2, h3, h4', h5]; rfl
    repeat (first | (refine ⟨fun h => ?_, fun h => ?_⟩; rotate_left 1; (focus (exfalso; (first | (with_reducible (cases h; done)) | (revert h; simp; done) | (revert h; simp; omega) | (revert h; simp [*]; done)))); clear h) | (refine ⟨fun h => ?_, fun h => ?_⟩; (focus (exfalso; (first | (with_reducible (cases h; done)) | (revert h; simp; done) | (revert h; simp; omega) | (revert h; simp [*]; done)))); clear h))
    exact ⟨_, Ent.nil _, by rw [e]; rfl, rfl⟩
  repeat (first | (refine ⟨fun h => ?_, fun h => ?_⟩; rotate_left 1; (focus (exfalso; (first | (with_reducible (cases h; done)) | (revert h; simp; done) | (revert h; simp; omega) | (revert h; simp [*]; done)))); clear h) | (refine ⟨fun h => ?_, fun h => ?_⟩; (focus (exfalso; (first | (with_reducible (cases h; done)) | (revert h; simp; done) | (revert h; simp; omega) | (revert h; simp [*]; done)))); clear h))
  refine ⟨_, ld 0 rfl rfl, ?_⟩
  repeat (first | (refine ⟨fun h => ?_, fun h => ?_⟩; rotate_left 1; (focus (exfalso; (first | (with_reducible (cases h; done)) | (revert h; simp; done) | (revert h; simp; omega) | (revert h; simp [*]; done)))); clear h) | (refine ⟨fun h => ?_, fun h => ?_⟩; (focus (exfalso; (first | (with_reducible (cases h; done)) | (revert h; simp; done) | (revert h; simp; omega) | (revert h; simp [*]; done)))); clear h))
  refine ⟨[], _, within_ok _ _ _ _, ?_⟩
  rintro _ _ ⟨rfl, rfl⟩
  cases h6 : inB s.sz 0 65536
  · have e : validB s = false := by rw [validB, h1, h2, h3, h4', h5, h6]; rfl
    repeat (first | (refine ⟨fun h => ?_, fun h => ?_⟩; rotate_left 1; (focus (exfalso; (first | (with_reducible (cases h; done)) | (revert h; simp; done) | (revert h; simp; omega) | (revert h; simp [*]; done)))); clear h) | (refine ⟨fun h => ?_, fun h => ?_⟩; (focus (exfalso; (first | (with_reducible (cases h; done)) | (revert h; simp; done) | (revert h; simp; omega) | (revert h; simp [*]; done)))); clear h))
    exact ⟨_, Ent.nil _, by rw [e]; rfl, rfl⟩
  repeat (first | (refine ⟨fun h => ?_, fun h => ?_⟩; rotate_left 1; (focus (exfalso; (first | (with_reducible (cases h; done)) | (revert h; simp; done) | (revert h; simp; omega) | (revert h; simp [*]; done)))); clear h) | (refine ⟨fun h => ?_, fun h => ?_⟩; (focus (exfalso; (first | (with_reducible (cases h; done)) | (revert h; simp; done) | (revert h; simp; omega) | (revert h; simp [*]; done)))); clear h))
  refine ⟨_, ld 0 rfl rfl, ?_⟩
  refine ⟨[], _, within_ok _ _ _ _, ?_⟩
  rintro _ _ ⟨rfl, rfl⟩
  cases h7 : inB s.fl 0 4096
  · have e : validB s = false := by rw [validB, h1, h2, h3, h4', h5, h6, h7]; rfl
    repeat (first | (refine ⟨fun h => ?_, fun h => ?_⟩; rotate_left 1; (focus (exfalso; (first | (with_reducible (cases h; done)) | (revert h; simp; done) | (revert h; simp; omega) | (revert h; simp [*]; done)))); clear h) | (refine ⟨fun h => ?_, fun h => ?_⟩; (focus (exfalso; (first | (with_reducible (cases h; done)) | (revert h; simp; done) | (revert h; simp; omega) | (revert h; simp [*]; done)))); clear h))
    exact ⟨_, Ent.nil _, by rw [e]; rfl, rfl⟩
  repeat (first | (refine ⟨fun h => ?_, fun h => ?_⟩; rotate_left 1; (focus (exfalso; (first | (with_reducible (cases h; done)) | (revert h; simp; done) | (revert h; simp; omega) | (revert h; simp [*]; done)))); clear h) | (refine ⟨fun h => ?_, fun h => ?_⟩; (focus (exfalso; (first | (with_reducible (cases h; done)) | (revert h; simp; done) | (revert h; simp; omega) | (revert h; simp [*]; done)))); clear h))
  refine ⟨_, ld 0 rfl rfl, ?_⟩
  repeat (first | (refine ⟨fun h => ?_, fun h => ?_⟩; rotate_left 1; (focus (exfalso; (first | (with_reducible (cases h; done)) | (revert h; simp; done) | (revert h; simp; omega) | (revert h; simp [*]; done)))); clear h) | (refine ⟨fun h => ?_, fun h => ?_⟩; (focus (exfalso; (first | (with_reducible (cases h; done)) | (revert h; simp; done) | (revert h; simp; omega) | (revert h; simp [*]; done)))); clear h))
  refine ⟨[], _, within_ok _ _ _ _, ?_⟩
  rintro _ _ ⟨rfl, rfl⟩
  cases h8 : inB s.bt 0 1099511627776
  · have e : validB s = false := by rw [validB, h1, h2, h3, h4', h5, h6, h7, h8]; rfl
    repeat (first | (refine ⟨fun h => ?_, fun h => ?_⟩; rotate_left 1; (focus (exfalso; (first | (with_reducible (cases h; done)) | (revert h; simp; done) | (revert h; simp; omega) | (revert h; simp [*]; done)))); clear h) | (refine ⟨fun h => ?_, fun h => ?_⟩; (focus (exfalso; (first | (with_reducible (cases h; done)) | (revert h; simp; done) | (revert h; simp; omega) | (revert h; simp [*]; done)))); clear h))
    exact ⟨_, Ent.nil _, by rw [e]; rfl, rfl⟩
  have e : validB s = if s.q = 1 then decide (s.pv = []) else decide (s.pv.length = 32) := by
    rw [validB, h1, h2, h3, h4', h5, h6, h7, h8]; simp only [Bool.true_and]
  repeat (first | (refine ⟨fun h => ?_, fun h => ?_⟩; rotate_left 1; (focus (exfalso; (first | (with_reducible (cases h; done)) | (revert h; simp; done) | (revert h; simp; omega) | (revert h; simp [*]; done)))); clear h) | (refine ⟨fun h => ?_, fun h => ?_⟩; (focus (exfalso; (first | (with_reducible (cases h; done)) | (revert h; simp; done) | (revert h; simp; omega) | (revert h; simp [*]; done)))); clear h))
  refine ⟨_, ld 0 rfl rfl, ?_⟩
  by_cases h9 : s.q = 1
  · repeat (first | (refine ⟨fun h => ?_, fun h => ?_⟩; rotate_left 1; (focus (exfalso; (first | (with_reducible (cases h; done)) | (revert h; simp; done) | (revert h; simp; omega) | (revert h; simp [*]; done)))); clear h) | (refine ⟨fun h => ?_, fun h => ?_⟩; (focus (exfalso; (first | (with_reducible (cases h; done)) | (revert h; simp; done) | (revert h; simp; omega) | (revert h; simp [*]; done)))); clear h))
    refine ⟨_, ld 0 rfl rfl, ?_⟩
    exact ⟨_, Ent.nil _, by rw [e, if_pos h9]; rfl, rfl⟩
  · repeat (first | (refine ⟨fun h => ?_, fun h => ?_⟩; rotate_left 1; (focus (exfalso; (first | (with_reducible (cases h; done)) | (revert h; simp; done) | (revert h; simp; omega) | (revert h; simp [*]; done)))); clear h) | (refine ⟨fun h => ?_, fun h => ?_⟩; (focus (exfalso; (first | (with_reducible (cases h; done)) | (revert h; simp; done) | (revert h; simp; omega) | (revert h; simp [*]; done)))); clear h))
    refine ⟨_, ld 0 rfl rfl, ?_⟩
    refine ⟨_, Ent.nil _, ?_, rfl⟩
    rw [e, if_neg h9]
    show Value.bool (decide ((s.pv.length : Int) = 32)) = Value.bool (decide (s.pv.length = 32))
    congr 1
    exact decide_eq_decide.2 (by omega)

theorem bare_ok (R : Rd) (s : Snap) : Fn Tryd.prog 42 [.agg ⟨s.cells⟩] [] R (fun v h => v = .agg ⟨s.bare.cells⟩ ∧ h = []) := by
  refine fn_of_vc mixed tabOk Tryd.func42 rfl (by kernel_rfl) (Nat.le_of_ble_eq_true rfl) ?_
  intro g1
  intro g2
  refine ⟨rfl, rfl, 0, rfl, rfl, Nat.le_of_ble_eq_true rfl, ?_⟩
  refine ⟨s.bare.cells, rdBlk 0 rfl, rfl, ?_⟩
  refine ⟨rfl, rfl, 1, rfl, rfl, Nat.le_of_ble_eq_true rfl, ?_⟩
  refine ⟨s.bare.cells, rdBlk 1 rfl, rfl, ?_⟩
  exact ⟨_, Ent.nil _, rfl, rfl⟩

theorem shown_ok (R : Rd) (r : Rec) : Fn Tryd.prog 38 [.agg ⟨r.cells⟩] [] R (fun v h => v = .agg ⟨r.shown.cells⟩ ∧ h = []) := by
  refine fn_of_vc mixed tabOk Tryd.func38 rfl (by kernel_rfl) (Nat.le_of_ble_eq_true rfl) ?_
  intro g1
  intro g2
  refine ⟨r.s.cells, fun j u hu => ?_, rfl, ?_⟩
  · have hj : j < 10 := (List.getElem?_eq_some_iff.1 hu).1
    show RH R _ ((⟨g1, 0, .none⟩ : Addr).add j) u
    rw [add_zero_addr]
    refine ld 0 rfl ?_
    show (r.s.cells ++ [.bool r.fo, .bool r.he])[j]? = some u
    rw [List.getElem?_append_left hj]; exact hu
  intro g3
  refine ⟨rfl, rfl, 2, rfl, rfl, Nat.le_of_ble_eq_true rfl, ?_⟩
  refine ⟨_, ld 0 rfl rfl, ?_⟩
  refine ⟨rfl, rfl, 2, rfl, rfl, Nat.le_of_ble_eq_true rfl, ?_⟩
  refine ⟨r.shown.cells, rdBlk 2 rfl, rfl, ?_⟩
  refine ⟨rfl, rfl, 1, rfl, rfl, Nat.le_of_ble_eq_true rfl, ?_⟩
  refine ⟨r.shown.cells, rdBlk 1 rfl, rfl, ?_⟩
  exact ⟨_, Ent.nil _, rfl, rfl⟩

end Go.Proofs.YtbgfnofjnbpdgaaDoor
