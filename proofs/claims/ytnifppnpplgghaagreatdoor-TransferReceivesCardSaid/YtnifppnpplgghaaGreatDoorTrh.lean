/-
  Transfer: contracts of the reference's heads and parts.
-/
import Derived.Test.YtnifppnpplgghaaGreatDoorTrg
import Derived.Test.YtnifppnpplgghaaGreatDoorW3
namespace Go.Proofs.YtnifppnpplgghaaGreatDoor
open Go Go.RowKit
set_option linter.unusedVariables false

theorem slr_src {R : Rd} {sz n cap : Nat} {A : Option Addr} {xs : List Value} (h : SlR R sz (.slice A n cap) n xs) : ∀ j u, xs[j]? = some u → ∃ a, A = some a ∧ R (a.add j) u := by
  obtain ⟨_, A', cap', e, h⟩ := h
  cases e
  exact h
set_option maxRecDepth 100000 in
set_option maxHeartbeats 4000000 in
theorem Formed_ok (R : Rd) (h : Hd) (B : Value) (hs : Ss R B h.sums) : Fn Tryz.prog 13 [.agg ⟨hdC h B⟩] [] R (fun v hp => v = .bool (decide (WfH h)) ∧ hp = []) := by
  obtain ⟨A, cap, rfl, hcap, hsr⟩ := hs
  refine fn_of_vc mixed tabOk Tryz.func13 rfl (by kernel_rfl) (Nat.le_of_ble_eq_true rfl) ?_
  intro g
  refine ⟨_, ld 0 rfl rfl, ?_⟩
  by_cases c1 : (h.st.length : Int) = 32
  case neg =>
    repeat (first | (refine ⟨fun h => ?_, fun h => ?_⟩; rotate_left 1; (focus (exfalso; (first | (with_reducible (cases h; done)) | (revert h; simp; done) | (revert h; simp; omega) | (revert h; simp [*]; done)))); clear h) | (refine ⟨fun h => ?_, fun h => ?_⟩; (focus (exfalso; (first | (with_reducible (cases h; done)) | (revert h; simp; done) | (revert h; simp; omega) | (revert h; simp [*]; done)))); clear h))
    exact ⟨_, Ent.nil _, no_H rfl (fun w => c1 (by have := w.st; omega)), rfl⟩
  repeat (first | (refine ⟨fun h => ?_, fun h => ?_⟩; rotate_left 1; (focus (exfalso; (first | (with_reducible (cases h; done)) | (revert h; simp; done) | (revert h; simp; omega) | (revert h; simp [*]; done)))); clear h) | (refine ⟨fun h => ?_, fun h => ?_⟩; (focus (exfalso; (first | (with_reducible (cases h; done)) | (revert h; simp; done) | (revert h; simp; omega) | (revert h; simp [*]; done)))); clear h))
  refine ⟨_, ld 0 rfl rfl, ?_⟩
  repeat (first | (refine ⟨fun h => ?_, fun h => ?_⟩; rotate_left 1; (focus (exfalso; (first | (with_reducible (cases h; done)) | (revert h; simp; done) | (revert h; simp; omega) | (revert h; simp [*]; done)))); clear h) | (refine ⟨fun h => ?_, fun h => ?_⟩; (focus (exfalso; (first | (with_reducible (cases h; done)) | (revert h; simp; done) | (revert h; simp; omega) | (revert h; simp [*]; done)))); clear h))
  by_cases c2 : (1 : Int) ≤ h.sums.length
  case neg =>
    repeat (first | (refine ⟨fun h => ?_, fun h => ?_⟩; rotate_left 1; (focus (exfalso; (first | (with_reducible (cases h; done)) | (revert h; simp; done) | (revert h; simp; omega) | (revert h; simp [*]; done)))); clear h) | (refine ⟨fun h => ?_, fun h => ?_⟩; (focus (exfalso; (first | (with_reducible (cases h; done)) | (revert h; simp; done) | (revert h; simp; omega) | (revert h; simp [*]; done)))); clear h))
    exact ⟨_, Ent.nil _, no_H rfl (fun w => c2 (by have := w.n1; omega)), rfl⟩
  repeat (first | (refine ⟨fun h => ?_, fun h => ?_⟩; rotate_left 1; (focus (exfalso; (first | (with_reducible (cases h; done)) | (revert h; simp; done) | (revert h; simp; omega) | (revert h; simp [*]; done)))); clear h) | (refine ⟨fun h => ?_, fun h => ?_⟩; (focus (exfalso; (first | (with_reducible (cases h; done)) | (revert h; simp; done) | (revert h; simp; omega) | (revert h; simp [*]; done)))); clear h))
  refine ⟨_, ld 0 rfl rfl, ?_⟩
  repeat (first | (refine ⟨fun h => ?_, fun h => ?_⟩; rotate_left 1; (focus (exfalso; (first | (with_reducible (cases h; done)) | (revert h; simp; done) | (revert h; simp; omega) | (revert h; simp [*]; done)))); clear h) | (refine ⟨fun h => ?_, fun h => ?_⟩; (focus (exfalso; (first | (with_reducible (cases h; done)) | (revert h; simp; done) | (revert h; simp; omega) | (revert h; simp [*]; done)))); clear h))
  by_cases c3 : (h.sums.length : Int) ≤ 16
  case neg =>
    repeat (first | (refine ⟨fun h => ?_, fun h => ?_⟩; rotate_left 1; (focus (exfalso; (first | (with_reducible (cases h; done)) | (revert h; simp; done) | (revert h; simp; omega) | (revert h; simp [*]; done)))); clear h) | (refine ⟨fun h => ?_, fun h => ?_⟩; (focus (exfalso; (first | (with_reducible (cases h; done)) | (revert h; simp; done) | (revert h; simp; omega) | (revert h; simp [*]; done)))); clear h))
    exact ⟨_, Ent.nil _, no_H rfl (fun w => c3 (by have := w.n2; omega)), rfl⟩
  repeat (first | (refine ⟨fun h => ?_, fun h => ?_⟩; rotate_left 1; (focus (exfalso; (first | (with_reducible (cases h; done)) | (revert h; simp; done) | (revert h; simp; omega) | (revert h; simp [*]; done)))); clear h) | (refine ⟨fun h => ?_, fun h => ?_⟩; (focus (exfalso; (first | (with_reducible (cases h; done)) | (revert h; simp; done) | (revert h; simp; omega) | (revert h; simp [*]; done)))); clear h))
  refine ⟨_, ld 0 rfl rfl, ?_⟩
  repeat (first | (refine ⟨fun h => ?_, fun h => ?_⟩; rotate_left 1; (focus (exfalso; (first | (with_reducible (cases h; done)) | (revert h; simp; done) | (revert h; simp; omega) | (revert h; simp [*]; done)))); clear h) | (refine ⟨fun h => ?_, fun h => ?_⟩; (focus (exfalso; (first | (with_reducible (cases h; done)) | (revert h; simp; done) | (revert h; simp; omega) | (revert h; simp [*]; done)))); clear h))
  refine ⟨[], _, refSums_ok _ h.sums _ (by omega) (hsr.rh _), ?_⟩
  rintro _ _ ⟨rfl, rfl⟩
  cases c4 : sumsB h.sums
  · repeat (first | (refine ⟨fun h => ?_, fun h => ?_⟩; rotate_left 1; (focus (exfalso; (first | (with_reducible (cases h; done)) | (revert h; simp; done) | (revert h; simp; omega) | (revert h; simp [*]; done)))); clear h) | (refine ⟨fun h => ?_, fun h => ?_⟩; (focus (exfalso; (first | (with_reducible (cases h; done)) | (revert h; simp; done) | (revert h; simp; omega) | (revert h; simp [*]; done)))); clear h))
    exact ⟨_, Ent.nil _, no_H rfl (fun w => by have := w.sums; rw [c4] at this; cases this), rfl⟩
  repeat (first | (refine ⟨fun h => ?_, fun h => ?_⟩; rotate_left 1; (focus (exfalso; (first | (with_reducible (cases h; done)) | (revert h; simp; done) | (revert h; simp; omega) | (revert h; simp [*]; done)))); clear h) | (refine ⟨fun h => ?_, fun h => ?_⟩; (focus (exfalso; (first | (with_reducible (cases h; done)) | (revert h; simp; done) | (revert h; simp; omega) | (revert h; simp [*]; done)))); clear h))
  refine ⟨_, ld 0 rfl rfl, ?_⟩
  repeat (first | (refine ⟨fun h => ?_, fun h => ?_⟩; rotate_left 1; (focus (exfalso; (first | (with_reducible (cases h; done)) | (revert h; simp; done) | (revert h; simp; omega) | (revert h; simp [*]; done)))); clear h) | (refine ⟨fun h => ?_, fun h => ?_⟩; (focus (exfalso; (first | (with_reducible (cases h; done)) | (revert h; simp; done) | (revert h; simp; omega) | (revert h; simp [*]; done)))); clear h))
  by_cases c5 : 0 ≤ h.ix
  case neg =>
    repeat (first | (refine ⟨fun h => ?_, fun h => ?_⟩; rotate_left 1; (focus (exfalso; (first | (with_reducible (cases h; done)) | (revert h; simp; done) | (revert h; simp; omega) | (revert h; simp [*]; done)))); clear h) | (refine ⟨fun h => ?_, fun h => ?_⟩; (focus (exfalso; (first | (with_reducible (cases h; done)) | (revert h; simp; done) | (revert h; simp; omega) | (revert h; simp [*]; done)))); clear h))
    exact ⟨_, Ent.nil _, no_H rfl (fun w => c5 w.i0), rfl⟩
  repeat (first | (refine ⟨fun h => ?_, fun h => ?_⟩; rotate_left 1; (focus (exfalso; (first | (with_reducible (cases h; done)) | (revert h; simp; done) | (revert h; simp; omega) | (revert h; simp [*]; done)))); clear h) | (refine ⟨fun h => ?_, fun h => ?_⟩; (focus (exfalso; (first | (with_reducible (cases h; done)) | (revert h; simp; done) | (revert h; simp; omega) | (revert h; simp [*]; done)))); clear h))
  refine ⟨_, ld 0 rfl rfl, ?_⟩
  repeat (first | (refine ⟨fun h => ?_, fun h => ?_⟩; rotate_left 1; (focus (exfalso; (first | (with_reducible (cases h; done)) | (revert h; simp; done) | (revert h; simp; omega) | (revert h; simp [*]; done)))); clear h) | (refine ⟨fun h => ?_, fun h => ?_⟩; (focus (exfalso; (first | (with_reducible (cases h; done)) | (revert h; simp; done) | (revert h; simp; omega) | (revert h; simp [*]; done)))); clear h))
  refine ⟨_, ld 0 rfl rfl, ?_⟩
  repeat (first | (refine ⟨fun h => ?_, fun h => ?_⟩; rotate_left 1; (focus (exfalso; (first | (with_reducible (cases h; done)) | (revert h; simp; done) | (revert h; simp; omega) | (revert h; simp [*]; done)))); clear h) | (refine ⟨fun h => ?_, fun h => ?_⟩; (focus (exfalso; (first | (with_reducible (cases h; done)) | (revert h; simp; done) | (revert h; simp; omega) | (revert h; simp [*]; done)))); clear h))
  by_cases c6 : h.ix < (h.sums.length : Int)
  case neg =>
    repeat (first | (refine ⟨fun h => ?_, fun h => ?_⟩; rotate_left 1; (focus (exfalso; (first | (with_reducible (cases h; done)) | (revert h; simp; done) | (revert h; simp; omega) | (revert h; simp [*]; done)))); clear h) | (refine ⟨fun h => ?_, fun h => ?_⟩; (focus (exfalso; (first | (with_reducible (cases h; done)) | (revert h; simp; done) | (revert h; simp; omega) | (revert h; simp [*]; done)))); clear h))
    exact ⟨_, Ent.nil _, no_H rfl (fun w => c6 w.i1), rfl⟩
  repeat (first | (refine ⟨fun h => ?_, fun h => ?_⟩; rotate_left 1; (focus (exfalso; (first | (with_reducible (cases h; done)) | (revert h; simp; done) | (revert h; simp; omega) | (revert h; simp [*]; done)))); clear h) | (refine ⟨fun h => ?_, fun h => ?_⟩; (focus (exfalso; (first | (with_reducible (cases h; done)) | (revert h; simp; done) | (revert h; simp; omega) | (revert h; simp [*]; done)))); clear h))
  refine ⟨_, ld 0 rfl rfl, ?_⟩
  repeat (first | (refine ⟨fun h => ?_, fun h => ?_⟩; rotate_left 1; (focus (exfalso; (first | (with_reducible (cases h; done)) | (revert h; simp; done) | (revert h; simp; omega) | (revert h; simp [*]; done)))); clear h) | (refine ⟨fun h => ?_, fun h => ?_⟩; (focus (exfalso; (first | (with_reducible (cases h; done)) | (revert h; simp; done) | (revert h; simp; omega) | (revert h; simp [*]; done)))); clear h))
  by_cases c7 : 1 ≤ h.sz
  case neg =>
    repeat (first | (refine ⟨fun h => ?_, fun h => ?_⟩; rotate_left 1; (focus (exfalso; (first | (with_reducible (cases h; done)) | (revert h; simp; done) | (revert h; simp; omega) | (revert h; simp [*]; done)))); clear h) | (refine ⟨fun h => ?_, fun h => ?_⟩; (focus (exfalso; (first | (with_reducible (cases h; done)) | (revert h; simp; done) | (revert h; simp; omega) | (revert h; simp [*]; done)))); clear h))
    exact ⟨_, Ent.nil _, no_H rfl (fun w => c7 w.s0), rfl⟩
  repeat (first | (refine ⟨fun h => ?_, fun h => ?_⟩; rotate_left 1; (focus (exfalso; (first | (with_reducible (cases h; done)) | (revert h; simp; done) | (revert h; simp; omega) | (revert h; simp [*]; done)))); clear h) | (refine ⟨fun h => ?_, fun h => ?_⟩; (focus (exfalso; (first | (with_reducible (cases h; done)) | (revert h; simp; done) | (revert h; simp; omega) | (revert h; simp [*]; done)))); clear h))
  refine ⟨_, ld 0 rfl rfl, ?_⟩
  repeat (first | (refine ⟨fun h => ?_, fun h => ?_⟩; rotate_left 1; (focus (exfalso; (first | (with_reducible (cases h; done)) | (revert h; simp; done) | (revert h; simp; omega) | (revert h; simp [*]; done)))); clear h) | (refine ⟨fun h => ?_, fun h => ?_⟩; (focus (exfalso; (first | (with_reducible (cases h; done)) | (revert h; simp; done) | (revert h; simp; omega) | (revert h; simp [*]; done)))); clear h))
  by_cases c8 : h.sz ≤ 65536
  case neg =>
    exact ⟨_, Ent.nil _, no_H (decide_eq_false c8) (fun w => c8 w.s1), rfl⟩
  exact ⟨_, Ent.nil _, yes_D (decide_eq_true c8) ⟨by omega, by omega, c4, by omega, c5, c6, c7, c8⟩, rfl⟩

/-- A head that fits. -/
def FitH (h : Hd) : Prop := WfH h ∧ rootOf h.sums = h.st
instance instDecFitH (h : Hd) : Decidable (FitH h) := by unfold FitH; exact inferInstance
set_option maxRecDepth 100000 in
theorem Fits_ok (R : Rd) (h : Hd) (B : Value) (hs : Ss R B h.sums) : Fn Tryz.prog 14 [.agg ⟨hdC h B⟩] [] R (fun v hp => v = .bool (decide (FitH h)) ∧ hp = []) := by
  refine fn_of_vc mixed tabOk Tryz.func14 rfl (by kernel_rfl) (Nat.le_of_ble_eq_true rfl) ?_
  intro g
  refine ⟨[0], (.q 0 (.one 1 (.q 2 (.q 3 (.q 4 (.q 6 (.q 7 (.q 8 (.one 5 (.q 9 (.q 10 (.q 11 .nil)))))))))))), by kernel_rfl, ?_⟩
  refine ⟨_, rdOff (o := 0) (n := 4) 0 rfl rfl, rfl, ?_⟩
  refine ⟨[], _, Formed_ok _ h B ((hs.rh _).rh _), ?_⟩
  rintro _ _ ⟨rfl, rfl⟩
  by_cases w : WfH h
  case neg =>
    rw [decide_eq_false w]
    repeat (first | (refine ⟨fun h => ?_, fun h => ?_⟩; rotate_left 1; (focus (exfalso; (first | (with_reducible (cases h; done)) | (revert h; simp; done) | (revert h; simp; omega) | (revert h; simp [*]; done)))); clear h) | (refine ⟨fun h => ?_, fun h => ?_⟩; (focus (exfalso; (first | (with_reducible (cases h; done)) | (revert h; simp; done) | (revert h; simp; omega) | (revert h; simp [*]; done)))); clear h))
    exact ⟨_, Ent.nil _, no_D rfl (fun f => w f.1), rfl⟩
  rw [decide_eq_true w]
  repeat (first | (refine ⟨fun h => ?_, fun h => ?_⟩; rotate_left 1; (focus (exfalso; (first | (with_reducible (cases h; done)) | (revert h; simp; done) | (revert h; simp; omega) | (revert h; simp [*]; done)))); clear h) | (refine ⟨fun h => ?_, fun h => ?_⟩; (focus (exfalso; (first | (with_reducible (cases h; done)) | (revert h; simp; done) | (revert h; simp; omega) | (revert h; simp [*]; done)))); clear h))
  refine ⟨_, ld 0 rfl rfl, ?_⟩
  repeat (first | (refine ⟨fun h => ?_, fun h => ?_⟩; rotate_left 1; (focus (exfalso; (first | (with_reducible (cases h; done)) | (revert h; simp; done) | (revert h; simp; omega) | (revert h; simp [*]; done)))); clear h) | (refine ⟨fun h => ?_, fun h => ?_⟩; (focus (exfalso; (first | (with_reducible (cases h; done)) | (revert h; simp; done) | (revert h; simp; omega) | (revert h; simp [*]; done)))); clear h))
  refine ⟨_, ld 0 rfl rfl, ?_⟩
  repeat (first | (refine ⟨fun h => ?_, fun h => ?_⟩; rotate_left 1; (focus (exfalso; (first | (with_reducible (cases h; done)) | (revert h; simp; done) | (revert h; simp; omega) | (revert h; simp [*]; done)))); clear h) | (refine ⟨fun h => ?_, fun h => ?_⟩; (focus (exfalso; (first | (with_reducible (cases h; done)) | (revert h; simp; done) | (revert h; simp; omega) | (revert h; simp [*]; done)))); clear h))
  refine ⟨[], _, refRoot_ok _ _ h.sums _ rfl (wf_small w.n2 w.sums) ((hs.rh _).rh _), ?_⟩
  rintro _ _ ⟨rfl, rfl⟩
  by_cases hr : rootOf h.sums = h.st
  · have hf : FitH h := ⟨w, hr⟩
    generalize rootOf h.sums = rs at *
    repeat (first | (refine ⟨fun h => ?_, fun h => ?_⟩; rotate_left 1; (focus (exfalso; (first | (with_reducible (cases h; done)) | (revert h; simp; done) | (revert h; simp; omega) | (revert h; simp [*]; done)))); clear h) | (refine ⟨fun h => ?_, fun h => ?_⟩; (focus (exfalso; (first | (with_reducible (cases h; done)) | (revert h; simp; done) | (revert h; simp; omega) | (revert h; simp [*]; done)))); clear h))
    exact ⟨_, Ent.nil _, yes_D (decide_eq_true hr) hf, rfl⟩
  · have hf : ¬ FitH h := fun f => hr f.2
    generalize rootOf h.sums = rs at *
    repeat (first | (refine ⟨fun h => ?_, fun h => ?_⟩; rotate_left 1; (focus (exfalso; (first | (with_reducible (cases h; done)) | (revert h; simp; done) | (revert h; simp; omega) | (revert h; simp [*]; done)))); clear h) | (refine ⟨fun h => ?_, fun h => ?_⟩; (focus (exfalso; (first | (with_reducible (cases h; done)) | (revert h; simp; done) | (revert h; simp; omega) | (revert h; simp [*]; done)))); clear h))
    exact ⟨_, Ent.nil _, no_D (decide_eq_false hr) hf, rfl⟩

theorem rParts_ok (R : Rd) (n : Nat) (hn : n ≤ 1000000000) : Fn Tryz.prog 43 [.int .i64 n] [] R (fun v h => v = .int .i64 (partsN n) ∧ h = []) := by
  refine fn_of_vc mixed tabOk Tryz.func43 rfl (by kernel_rfl) (Nat.le_of_ble_eq_true rfl) ?_
  (intro z hz; obtain rfl : z = ((n + 512 : Nat) : Int) := (by first | (rw [IntKind.wrap_i64] at hz; omega) | (rw [IntKind.wrap_u64] at hz; omega) | omega); clear hz)
  (intro z hz; obtain rfl : z = ((n + 511 : Nat) : Int) := (by first | (rw [IntKind.wrap_i64] at hz; omega) | (rw [IntKind.wrap_u64] at hz; omega) | omega); clear hz)
  refine ⟨by decide, ?_⟩
  intro z hz
  obtain rfl := quo_nat (a := n + 511) (b := 512) rfl (by omega) hz
  exact ⟨_, Ent.refl _, rfl, rfl⟩
theorem There_ok (R : Rd) (off n : Int) (h1 : -9223372036854775808 ≤ off) (h2 : off ≤ 9223372036854775807) :
    Fn Tryz.prog 51 [.int .i64 n, .int .i64 off] [] R (fun v h => v = .bool (thereB n off) ∧ h = []) := by
  refine fn_of_vc mixed tabOk Tryz.func51 rfl (by kernel_rfl) (Nat.le_of_ble_eq_true rfl) ?_
  by_cases c1 : 0 ≤ off
  case neg =>
    repeat (first | (refine ⟨fun h => ?_, fun h => ?_⟩; rotate_left 1; (focus (exfalso; (first | (with_reducible (cases h; done)) | (revert h; simp; done) | (revert h; simp; omega) | (revert h; simp [*]; done)))); clear h) | (refine ⟨fun h => ?_, fun h => ?_⟩; (focus (exfalso; (first | (with_reducible (cases h; done)) | (revert h; simp; done) | (revert h; simp; omega) | (revert h; simp [*]; done)))); clear h))
    exact ⟨_, Ent.refl _, no_D rfl (fun h => by omega), rfl⟩
  repeat (first | (refine ⟨fun h => ?_, fun h => ?_⟩; rotate_left 1; (focus (exfalso; (first | (with_reducible (cases h; done)) | (revert h; simp; done) | (revert h; simp; omega) | (revert h; simp [*]; done)))); clear h) | (refine ⟨fun h => ?_, fun h => ?_⟩; (focus (exfalso; (first | (with_reducible (cases h; done)) | (revert h; simp; done) | (revert h; simp; omega) | (revert h; simp [*]; done)))); clear h))
  by_cases c2 : off < n
  case neg =>
    repeat (first | (refine ⟨fun h => ?_, fun h => ?_⟩; rotate_left 1; (focus (exfalso; (first | (with_reducible (cases h; done)) | (revert h; simp; done) | (revert h; simp; omega) | (revert h; simp [*]; done)))); clear h) | (refine ⟨fun h => ?_, fun h => ?_⟩; (focus (exfalso; (first | (with_reducible (cases h; done)) | (revert h; simp; done) | (revert h; simp; omega) | (revert h; simp [*]; done)))); clear h))
    exact ⟨_, Ent.refl _, no_D rfl (fun h => by omega), rfl⟩
  repeat (first | (refine ⟨fun h => ?_, fun h => ?_⟩; rotate_left 1; (focus (exfalso; (first | (with_reducible (cases h; done)) | (revert h; simp; done) | (revert h; simp; omega) | (revert h; simp [*]; done)))); clear h) | (refine ⟨fun h => ?_, fun h => ?_⟩; (focus (exfalso; (first | (with_reducible (cases h; done)) | (revert h; simp; done) | (revert h; simp; omega) | (revert h; simp [*]; done)))); clear h))
  refine ⟨by decide, ?_⟩
  intro z hz
  obtain rfl := rem_nat (a := off.toNat) (b := 512) (by omega) hz
  clear hz
  repeat (first | (refine ⟨fun h => ?_, fun h => ?_⟩; rotate_left 1; (focus (exfalso; (first | (with_reducible (cases h; done)) | (revert h; simp; done) | (revert h; simp; omega) | (revert h; simp [*]; done)))); clear h) | (refine ⟨fun h => ?_, fun h => ?_⟩; (focus (exfalso; (first | (with_reducible (cases h; done)) | (revert h; simp; done) | (revert h; simp; omega) | (revert h; simp [*]; done)))); clear h))
  by_cases c3 : ((off.toNat % 512 : Nat) : Int) = 0
  case neg =>
    exact ⟨_, Ent.refl _, no_D (decide_eq_false c3) (fun h => by omega), rfl⟩
  exact ⟨_, Ent.refl _, yes_D (decide_eq_true c3) ⟨c1, c2, by omega⟩, rfl⟩
set_option maxRecDepth 100000 in
set_option maxHeartbeats 4000000 in
theorem PartFormed_ok (R : Rd) (p : Pt) (D B : Value) (h1 : -9223372036854775808 ≤ p.off) (h2 : p.off ≤ 9223372036854775807) (hd : Bs R D p.dt) (hs : Ss R B p.path) :
    Fn Tryz.prog 31 [.agg ⟨ptC p D B⟩] [] R (fun v hp => v = .bool (decide (WfP p)) ∧ hp = []) := by
  obtain ⟨A, cap, rfl, hcap, hsr⟩ := hs
  obtain ⟨A2, cap2, rfl, _, _⟩ := hd
  refine fn_of_vc mixed tabOk Tryz.func31 rfl (by kernel_rfl) (Nat.le_of_ble_eq_true rfl) ?_
  intro g
  refine ⟨_, ld 0 rfl rfl, ?_⟩
  by_cases c1 : (p.st.length : Int) = 32
  case neg =>
    repeat (first | (refine ⟨fun h => ?_, fun h => ?_⟩; rotate_left 1; (focus (exfalso; (first | (with_reducible (cases h; done)) | (revert h; simp; done) | (revert h; simp; omega) | (revert h; simp [*]; done)))); clear h) | (refine ⟨fun h => ?_, fun h => ?_⟩; (focus (exfalso; (first | (with_reducible (cases h; done)) | (revert h; simp; done) | (revert h; simp; omega) | (revert h; simp [*]; done)))); clear h))
    exact ⟨_, Ent.nil _, no_P rfl (fun w => c1 (by have := w.st; omega)), rfl⟩
  repeat (first | (refine ⟨fun h => ?_, fun h => ?_⟩; rotate_left 1; (focus (exfalso; (first | (with_reducible (cases h; done)) | (revert h; simp; done) | (revert h; simp; omega) | (revert h; simp [*]; done)))); clear h) | (refine ⟨fun h => ?_, fun h => ?_⟩; (focus (exfalso; (first | (with_reducible (cases h; done)) | (revert h; simp; done) | (revert h; simp; omega) | (revert h; simp [*]; done)))); clear h))
  refine ⟨_, ld 0 rfl rfl, ?_⟩
  repeat (first | (refine ⟨fun h => ?_, fun h => ?_⟩; rotate_left 1; (focus (exfalso; (first | (with_reducible (cases h; done)) | (revert h; simp; done) | (revert h; simp; omega) | (revert h; simp [*]; done)))); clear h) | (refine ⟨fun h => ?_, fun h => ?_⟩; (focus (exfalso; (first | (with_reducible (cases h; done)) | (revert h; simp; done) | (revert h; simp; omega) | (revert h; simp [*]; done)))); clear h))
  by_cases c2 : 0 ≤ p.ix
  case neg =>
    repeat (first | (refine ⟨fun h => ?_, fun h => ?_⟩; rotate_left 1; (focus (exfalso; (first | (with_reducible (cases h; done)) | (revert h; simp; done) | (revert h; simp; omega) | (revert h; simp [*]; done)))); clear h) | (refine ⟨fun h => ?_, fun h => ?_⟩; (focus (exfalso; (first | (with_reducible (cases h; done)) | (revert h; simp; done) | (revert h; simp; omega) | (revert h; simp [*]; done)))); clear h))
    exact ⟨_, Ent.nil _, no_P rfl (fun w => c2 w.i0), rfl⟩
  repeat (first | (refine ⟨fun h => ?_, fun h => ?_⟩; rotate_left 1; (focus (exfalso; (first | (with_reducible (cases h; done)) | (revert h; simp; done) | (revert h; simp; omega) | (revert h; simp [*]; done)))); clear h) | (refine ⟨fun h => ?_, fun h => ?_⟩; (focus (exfalso; (first | (with_reducible (cases h; done)) | (revert h; simp; done) | (revert h; simp; omega) | (revert h; simp [*]; done)))); clear h))
  refine ⟨_, ld 0 rfl rfl, ?_⟩
  repeat (first | (refine ⟨fun h => ?_, fun h => ?_⟩; rotate_left 1; (focus (exfalso; (first | (with_reducible (cases h; done)) | (revert h; simp; done) | (revert h; simp; omega) | (revert h; simp [*]; done)))); clear h) | (refine ⟨fun h => ?_, fun h => ?_⟩; (focus (exfalso; (first | (with_reducible (cases h; done)) | (revert h; simp; done) | (revert h; simp; omega) | (revert h; simp [*]; done)))); clear h))
  by_cases c3 : p.ix < 16
  case neg =>
    repeat (first | (refine ⟨fun h => ?_, fun h => ?_⟩; rotate_left 1; (focus (exfalso; (first | (with_reducible (cases h; done)) | (revert h; simp; done) | (revert h; simp; omega) | (revert h; simp [*]; done)))); clear h) | (refine ⟨fun h => ?_, fun h => ?_⟩; (focus (exfalso; (first | (with_reducible (cases h; done)) | (revert h; simp; done) | (revert h; simp; omega) | (revert h; simp [*]; done)))); clear h))
    exact ⟨_, Ent.nil _, no_P rfl (fun w => c3 w.i1), rfl⟩
  repeat (first | (refine ⟨fun h => ?_, fun h => ?_⟩; rotate_left 1; (focus (exfalso; (first | (with_reducible (cases h; done)) | (revert h; simp; done) | (revert h; simp; omega) | (revert h; simp [*]; done)))); clear h) | (refine ⟨fun h => ?_, fun h => ?_⟩; (focus (exfalso; (first | (with_reducible (cases h; done)) | (revert h; simp; done) | (revert h; simp; omega) | (revert h; simp [*]; done)))); clear h))
  refine ⟨_, ld 0 rfl rfl, ?_⟩
  repeat (first | (refine ⟨fun h => ?_, fun h => ?_⟩; rotate_left 1; (focus (exfalso; (first | (with_reducible (cases h; done)) | (revert h; simp; done) | (revert h; simp; omega) | (revert h; simp [*]; done)))); clear h) | (refine ⟨fun h => ?_, fun h => ?_⟩; (focus (exfalso; (first | (with_reducible (cases h; done)) | (revert h; simp; done) | (revert h; simp; omega) | (revert h; simp [*]; done)))); clear h))
  refine ⟨[], _, There_ok _ p.off 65536 h1 h2, ?_⟩
  rintro _ _ ⟨rfl, rfl⟩
  cases c4 : thereB 65536 p.off
  · have c4' := of_decide_eq_false c4
    repeat (first | (refine ⟨fun h => ?_, fun h => ?_⟩; rotate_left 1; (focus (exfalso; (first | (with_reducible (cases h; done)) | (revert h; simp; done) | (revert h; simp; omega) | (revert h; simp [*]; done)))); clear h) | (refine ⟨fun h => ?_, fun h => ?_⟩; (focus (exfalso; (first | (with_reducible (cases h; done)) | (revert h; simp; done) | (revert h; simp; omega) | (revert h; simp [*]; done)))); clear h))
    exact ⟨_, Ent.nil _, no_P rfl (fun w => c4' ⟨w.o0, by have := w.o1; omega, w.om⟩), rfl⟩
  have c4' := of_decide_eq_true c4
  repeat (first | (refine ⟨fun h => ?_, fun h => ?_⟩; rotate_left 1; (focus (exfalso; (first | (with_reducible (cases h; done)) | (revert h; simp; done) | (revert h; simp; omega) | (revert h; simp [*]; done)))); clear h) | (refine ⟨fun h => ?_, fun h => ?_⟩; (focus (exfalso; (first | (with_reducible (cases h; done)) | (revert h; simp; done) | (revert h; simp; omega) | (revert h; simp [*]; done)))); clear h))
  refine ⟨_, ld 0 rfl rfl, ?_⟩
  repeat (first | (refine ⟨fun h => ?_, fun h => ?_⟩; rotate_left 1; (focus (exfalso; (first | (with_reducible (cases h; done)) | (revert h; simp; done) | (revert h; simp; omega) | (revert h; simp [*]; done)))); clear h) | (refine ⟨fun h => ?_, fun h => ?_⟩; (focus (exfalso; (first | (with_reducible (cases h; done)) | (revert h; simp; done) | (revert h; simp; omega) | (revert h; simp [*]; done)))); clear h))
  by_cases c5 : (1 : Int) ≤ p.dt.length
  case neg =>
    repeat (first | (refine ⟨fun h => ?_, fun h => ?_⟩; rotate_left 1; (focus (exfalso; (first | (with_reducible (cases h; done)) | (revert h; simp; done) | (revert h; simp; omega) | (revert h; simp [*]; done)))); clear h) | (refine ⟨fun h => ?_, fun h => ?_⟩; (focus (exfalso; (first | (with_reducible (cases h; done)) | (revert h; simp; done) | (revert h; simp; omega) | (revert h; simp [*]; done)))); clear h))
    exact ⟨_, Ent.nil _, no_P rfl (fun w => c5 (by have := w.d0; omega)), rfl⟩
  repeat (first | (refine ⟨fun h => ?_, fun h => ?_⟩; rotate_left 1; (focus (exfalso; (first | (with_reducible (cases h; done)) | (revert h; simp; done) | (revert h; simp; omega) | (revert h; simp [*]; done)))); clear h) | (refine ⟨fun h => ?_, fun h => ?_⟩; (focus (exfalso; (first | (with_reducible (cases h; done)) | (revert h; simp; done) | (revert h; simp; omega) | (revert h; simp [*]; done)))); clear h))
  refine ⟨_, ld 0 rfl rfl, ?_⟩
  repeat (first | (refine ⟨fun h => ?_, fun h => ?_⟩; rotate_left 1; (focus (exfalso; (first | (with_reducible (cases h; done)) | (revert h; simp; done) | (revert h; simp; omega) | (revert h; simp [*]; done)))); clear h) | (refine ⟨fun h => ?_, fun h => ?_⟩; (focus (exfalso; (first | (with_reducible (cases h; done)) | (revert h; simp; done) | (revert h; simp; omega) | (revert h; simp [*]; done)))); clear h))
  by_cases c6 : (p.dt.length : Int) ≤ 512
  case neg =>
    repeat (first | (refine ⟨fun h => ?_, fun h => ?_⟩; rotate_left 1; (focus (exfalso; (first | (with_reducible (cases h; done)) | (revert h; simp; done) | (revert h; simp; omega) | (revert h; simp [*]; done)))); clear h) | (refine ⟨fun h => ?_, fun h => ?_⟩; (focus (exfalso; (first | (with_reducible (cases h; done)) | (revert h; simp; done) | (revert h; simp; omega) | (revert h; simp [*]; done)))); clear h))
    exact ⟨_, Ent.nil _, no_P rfl (fun w => c6 (by have := w.d1; omega)), rfl⟩
  repeat (first | (refine ⟨fun h => ?_, fun h => ?_⟩; rotate_left 1; (focus (exfalso; (first | (with_reducible (cases h; done)) | (revert h; simp; done) | (revert h; simp; omega) | (revert h; simp [*]; done)))); clear h) | (refine ⟨fun h => ?_, fun h => ?_⟩; (focus (exfalso; (first | (with_reducible (cases h; done)) | (revert h; simp; done) | (revert h; simp; omega) | (revert h; simp [*]; done)))); clear h))
  refine ⟨_, ld 0 rfl rfl, ?_⟩
  repeat (first | (refine ⟨fun h => ?_, fun h => ?_⟩; rotate_left 1; (focus (exfalso; (first | (with_reducible (cases h; done)) | (revert h; simp; done) | (revert h; simp; omega) | (revert h; simp [*]; done)))); clear h) | (refine ⟨fun h => ?_, fun h => ?_⟩; (focus (exfalso; (first | (with_reducible (cases h; done)) | (revert h; simp; done) | (revert h; simp; omega) | (revert h; simp [*]; done)))); clear h))
  by_cases c7 : (p.path.length : Int) ≤ 16
  case neg =>
    repeat (first | (refine ⟨fun h => ?_, fun h => ?_⟩; rotate_left 1; (focus (exfalso; (first | (with_reducible (cases h; done)) | (revert h; simp; done) | (revert h; simp; omega) | (revert h; simp [*]; done)))); clear h) | (refine ⟨fun h => ?_, fun h => ?_⟩; (focus (exfalso; (first | (with_reducible (cases h; done)) | (revert h; simp; done) | (revert h; simp; omega) | (revert h; simp [*]; done)))); clear h))
    exact ⟨_, Ent.nil _, no_P rfl (fun w => c7 (by have := w.n; omega)), rfl⟩
  repeat (first | (refine ⟨fun h => ?_, fun h => ?_⟩; rotate_left 1; (focus (exfalso; (first | (with_reducible (cases h; done)) | (revert h; simp; done) | (revert h; simp; omega) | (revert h; simp [*]; done)))); clear h) | (refine ⟨fun h => ?_, fun h => ?_⟩; (focus (exfalso; (first | (with_reducible (cases h; done)) | (revert h; simp; done) | (revert h; simp; omega) | (revert h; simp [*]; done)))); clear h))
  refine ⟨_, ld 0 rfl rfl, ?_⟩
  repeat (first | (refine ⟨fun h => ?_, fun h => ?_⟩; rotate_left 1; (focus (exfalso; (first | (with_reducible (cases h; done)) | (revert h; simp; done) | (revert h; simp; omega) | (revert h; simp [*]; done)))); clear h) | (refine ⟨fun h => ?_, fun h => ?_⟩; (focus (exfalso; (first | (with_reducible (cases h; done)) | (revert h; simp; done) | (revert h; simp; omega) | (revert h; simp [*]; done)))); clear h))
  refine ⟨[], _, refSums_ok _ p.path _ (by omega) (hsr.rh _), ?_⟩
  rintro _ _ ⟨rfl, rfl⟩
  cases c8 : sumsB p.path
  · repeat (first | (refine ⟨fun h => ?_, fun h => ?_⟩; rotate_left 1; (focus (exfalso; (first | (with_reducible (cases h; done)) | (revert h; simp; done) | (revert h; simp; omega) | (revert h; simp [*]; done)))); clear h) | (refine ⟨fun h => ?_, fun h => ?_⟩; (focus (exfalso; (first | (with_reducible (cases h; done)) | (revert h; simp; done) | (revert h; simp; omega) | (revert h; simp [*]; done)))); clear h))
    exact ⟨_, Ent.nil _, no_P rfl (fun w => by have := w.sums; rw [c8] at this; cases this), rfl⟩
  repeat (first | (refine ⟨fun h => ?_, fun h => ?_⟩; rotate_left 1; (focus (exfalso; (first | (with_reducible (cases h; done)) | (revert h; simp; done) | (revert h; simp; omega) | (revert h; simp [*]; done)))); clear h) | (refine ⟨fun h => ?_, fun h => ?_⟩; (focus (exfalso; (first | (with_reducible (cases h; done)) | (revert h; simp; done) | (revert h; simp; omega) | (revert h; simp [*]; done)))); clear h))
  exact ⟨_, Ent.nil _, yes_D rfl ⟨by omega, c2, c3, c4'.1, by omega, c4'.2.2, by omega, by omega, by omega, c8⟩, rfl⟩

/-! ### the encoding by the reference -/
def itS (s : Str) : Item := ⟨6, 0, 0, false, s, 0⟩
def itU (n : Nat) : Item := ⟨1, n, 0, false, [], 0⟩
def itCt (n : Nat) : Item := ⟨7, 0, n, false, [], 0⟩
def itB (s : Str) : Item := ⟨4, 0, 0, false, s, 0⟩
def iC (l : List Item) : List Value := l.flatMap Item.cells
theorem iC_app (a b : List Item) : iC (a ++ b) = iC a ++ iC b := List.flatMap_append
theorem iC_length (l : List Item) : (iC l).length = l.length * 6 := flat_len fun _ _ => rfl
theorem iC_one (l : List Item) : allOne (iC l) = true := allOne_of fun u hu => by
  obtain ⟨x, _, hx⟩ := List.mem_flatMap.1 hu
  simp only [Item.cells, List.mem_cons, List.not_mem_nil, or_false] at hx
  rcases hx with rfl | rfl | rfl | rfl | rfl | rfl <;> rfl
theorem enc_fold : ∀ (l : List Item) (bs : Str), (∀ x ∈ l, ∃ y, enc1 x = some y) → l.foldl put1 (bs, 0) = (bs ++ l.flatMap fun x => (enc1 x).getD [], 0)
  | [], bs, _ => by simp
  | x :: l, bs, h => by
    obtain ⟨y, hy⟩ := h x (by simp)
    rw [List.foldl_cons, put_some hy, if_pos rfl, enc_fold l _ fun z hz => h z (by simp [hz]), List.flatMap_cons, hy, List.append_assoc]; rfl
theorem encS_all {l : List Item} (h : ∀ x ∈ l, ∃ y, enc1 x = some y) : encS l = (l.flatMap fun x => (enc1 x).getD [], 0) := by
  unfold encS
  rw [enc_fold l [] h, List.nil_append]
theorem enc_itS {s : Str} (h : s.length = 32) : enc1 (itS s) = some s := by
  show (if s.length = 32 then some s else none) = _
  rw [if_pos h]
theorem enc_itU (n : Nat) : enc1 (itU n) = some (num n) := rfl
theorem enc_itCt (n : Nat) : enc1 (itCt n) = some (num n) := by
  show (if (n : Int) < 0 then none else some (num (n : Int).toNat)) = _
  rw [if_neg (by omega), Int.toNat_natCast]
theorem enc_itB (s : Str) : enc1 (itB s) = some (num s.length ++ s) := rfl
theorem ok_itS {s : Str} (h : s.length ≤ 100000) : (itS s).Ok := ⟨(by decide : (0 : Nat) ≤ 18446744073709551615), (by decide : (-9223372036854775808 : Int) ≤ 0), (by decide : (0 : Int) ≤ 9223372036854775807), (by decide : (-9223372036854775808 : Int) ≤ 6), (by decide : (6 : Int) ≤ 9223372036854775807), (by decide : (-9223372036854775808 : Int) ≤ 0), (by decide : (0 : Int) ≤ 9223372036854775807), by show s.length ≤ _; omega⟩
theorem ok_itB {s : Str} (h : s.length ≤ 100000) : (itB s).Ok := ⟨(by decide : (0 : Nat) ≤ 18446744073709551615), (by decide : (-9223372036854775808 : Int) ≤ 0), (by decide : (0 : Int) ≤ 9223372036854775807), (by decide : (-9223372036854775808 : Int) ≤ 4), (by decide : (4 : Int) ≤ 9223372036854775807), (by decide : (-9223372036854775808 : Int) ≤ 0), (by decide : (0 : Int) ≤ 9223372036854775807), by show s.length ≤ _; omega⟩
theorem ok_itU {n : Nat} (h : n ≤ 18446744073709551615) : (itU n).Ok := ⟨h, (by decide : (-9223372036854775808 : Int) ≤ 0), (by decide : (0 : Int) ≤ 9223372036854775807), (by decide : (-9223372036854775808 : Int) ≤ 1), (by decide : (1 : Int) ≤ 9223372036854775807), (by decide : (-9223372036854775808 : Int) ≤ 0), (by decide : (0 : Int) ≤ 9223372036854775807), (by decide : (0 : Nat) ≤ 9223372036854775807)⟩
theorem ok_itCt {n : Nat} (h : n ≤ 1000000) : (itCt n).Ok := ⟨(by decide : (0 : Nat) ≤ 18446744073709551615), by show (-9223372036854775808 : Int) ≤ n; omega, by show (n : Int) ≤ _; omega, (by decide : (-9223372036854775808 : Int) ≤ 7), (by decide : (7 : Int) ≤ 9223372036854775807), (by decide : (-9223372036854775808 : Int) ≤ 0), (by decide : (0 : Int) ≤ 9223372036854775807), (by decide : (0 : Nat) ≤ 9223372036854775807)⟩
def itemsL (l : List Str) : List Item := itCt l.length :: l.map itS
def itemsH (h : Hd) : List Item := [itS h.st, itU h.ix.toNat, itU h.sz.toNat] ++ itemsL h.sums
def itemsP (p : Pt) : List Item := [itS p.st, itU p.ix.toNat, itU p.off.toNat, itB p.dt] ++ itemsL p.path
theorem itemsL_length (l : List Str) : (itemsL l).length = l.length + 1 := by simp [itemsL]
theorem flat_sums {l : List Str} (h : ∀ x ∈ l, x.length = 32) : (l.map itS).flatMap (fun x => (enc1 x).getD []) = cat l := by
  induction l with
  | nil => rfl
  | cons a l ih => rw [List.map_cons, List.flatMap_cons, enc_itS (h a (by simp)), ih fun x hx => h x (by simp [hx]), cat_cons]; rfl
theorem some_L {l : List Str} (h : ∀ x ∈ l, x.length = 32) : ∀ x ∈ itemsL l, ∃ y, enc1 x = some y := fun x hx => by
  rcases List.mem_cons.1 hx with rfl | hx
  · exact ⟨_, enc_itCt _⟩
  · obtain ⟨s, hs, rfl⟩ := List.mem_map.1 hx
    exact ⟨_, enc_itS (h s hs)⟩
theorem encS_H {h : Hd} (w : WfH h) : encS (itemsH h) = (encH h, 0) := by
  have h32 := mem_sums w.sums
  rw [encS_all]
  · unfold itemsH itemsL
    rw [List.flatMap_append]
    simp only [List.flatMap_cons, List.flatMap_nil, flat_sums h32, enc_itCt, enc_itS w.st, enc_itU, Option.getD_some, List.append_nil, encH, List.append_assoc]
  · intro x hx
    rcases List.mem_append.1 hx with hx | hx
    · simp only [List.mem_cons, List.not_mem_nil, or_false] at hx
      rcases hx with rfl | rfl | rfl
      · exact ⟨_, enc_itS w.st⟩
      · exact ⟨_, enc_itU _⟩
      · exact ⟨_, enc_itU _⟩
    · exact some_L h32 x hx
theorem encS_P {p : Pt} (w : WfP p) : encS (itemsP p) = (encP p, 0) := by
  have h32 := mem_sums w.sums
  rw [encS_all]
  · unfold itemsP itemsL
    rw [List.flatMap_append]
    simp only [List.flatMap_cons, List.flatMap_nil, flat_sums h32, enc_itCt, enc_itS w.st, enc_itU, enc_itB, Option.getD_some, List.append_nil, encP, List.append_assoc]
  · intro x hx
    rcases List.mem_append.1 hx with hx | hx
    · simp only [List.mem_cons, List.not_mem_nil, or_false] at hx
      rcases hx with rfl | rfl | rfl | rfl
      · exact ⟨_, enc_itS w.st⟩
      · exact ⟨_, enc_itU _⟩
      · exact ⟨_, enc_itU _⟩
      · exact ⟨_, enc_itB _⟩
    · exact some_L h32 x hx
theorem oks_L {l : List Str} (hn : l.length ≤ 1000) (h : ∀ x ∈ l, x.length = 32) : ∀ x ∈ itemsL l, x.Ok ∧ x.s.length ≤ 100000 := fun x hx => by
  rcases List.mem_cons.1 hx with rfl | hx
  · exact ⟨ok_itCt (by omega), Nat.zero_le _⟩
  · obtain ⟨s, hs, rfl⟩ := List.mem_map.1 hx
    have := h s hs
    exact ⟨ok_itS (by omega), by show s.length ≤ _; omega⟩
theorem oks_H {h : Hd} (w : WfH h) : ∀ x ∈ itemsH h, x.Ok ∧ x.s.length ≤ 100000 := fun x hx => by
  obtain ⟨a1, a2, a3, a4, a5, a6, a7, a8⟩ := w
  rcases List.mem_append.1 hx with hx | hx
  · simp only [List.mem_cons, List.not_mem_nil, or_false] at hx
    rcases hx with rfl | rfl | rfl
    · exact ⟨ok_itS (by omega), by show h.st.length ≤ _; omega⟩
    · exact ⟨ok_itU (by omega), Nat.zero_le _⟩
    · exact ⟨ok_itU (by omega), Nat.zero_le _⟩
  · exact oks_L (by omega) (mem_sums a3) x hx
theorem oks_P {p : Pt} (w : WfP p) : ∀ x ∈ itemsP p, x.Ok ∧ x.s.length ≤ 100000 := fun x hx => by
  obtain ⟨a1, a2, a3, a4, a5, a6, a7, a8, a9, a10⟩ := w
  rcases List.mem_append.1 hx with hx | hx
  · simp only [List.mem_cons, List.not_mem_nil, or_false] at hx
    rcases hx with rfl | rfl | rfl | rfl
    · exact ⟨ok_itS (by omega), by show p.st.length ≤ _; omega⟩
    · exact ⟨ok_itU (by omega), Nat.zero_le _⟩
    · exact ⟨ok_itU (by omega), Nat.zero_le _⟩
    · exact ⟨ok_itB (by omega), by show p.dt.length ≤ _; omega⟩
  · exact oks_L (by omega) (mem_sums a10) x hx

theorem rnumber_ok (R : Rd) (n : Int) (h0 : 0 ≤ n) (h1 : n ≤ 9223372036854775807) : Fn Tryz.prog 71 [.int .i64 n] [] R (fun v h => v = .agg ⟨(itU n.toNat).cells⟩ ∧ h = []) := by
  refine fn_of_vc mixed tabOk Tryz.func71 rfl (by kernel_rfl) (Nat.le_of_ble_eq_true rfl) ?_
  intro g
  (intro z hz; obtain rfl : z = ((n.toNat : Nat) : Int) := (by first | (rw [IntKind.wrap_i64] at hz; omega) | (rw [IntKind.wrap_u64] at hz; omega) | omega); clear hz)
  refine ⟨rfl, rfl, 0, rfl, rfl, Nat.le_of_ble_eq_true rfl, ?_⟩
  refine ⟨_, rdOff (o := 0) (n := 6) 0 rfl rfl, rfl, ?_⟩
  exact ⟨_, Ent.nil _, rfl, rfl⟩
set_option maxRecDepth 100000 in
set_option maxHeartbeats 2000000 in
theorem rsums_ok (R : Rd) (l : List Str) (v : Value) (hn : l.length ≤ 1000) (hs : Ss R v l) : Fn Tryz.prog 72 [v] [] R
    (fun v h => ∃ A cap, v = .slice A (itemsL l).length cap ∧ h = [.row A (itemsL l).length cap 114 6 (iC (itemsL l)) (0, 0)] ∧ grow (itemsL l).length A) := by
  have hML := maxLen_eq
  obtain ⟨A0, cap0, rfl, hc0, hsr⟩ := hs
  refine fn_of_vc mixed tabOk Tryz.func72 rfl (by kernel_rfl) (Nat.le_of_ble_eq_true rfl) ?_
  refine ⟨rfl, fun g1 => ?_⟩
  refine ⟨[none, none, none, some 3, some 4, none, none, none, none, some 9, some 10, some 11, some 12, some 13, some 14, some 15, some 16, some 17, some 18, some 19, some 20, some 21, some 22], [3, 4], Nat × Option Addr × Nat × Nat × List Value, fun ⟨i, A, n, cap, xs⟩ => i ≤ l.length ∧ n = i + 1 ∧ xs = iC (itCt l.length :: (l.take i).map itS) ∧ grow n A, fun ⟨i, A, n, cap, xs⟩ => [.slice A n cap, .int .i64 i],
    fun ⟨i, A, n, cap, xs⟩ => [.row A n cap 114 6 xs (0, 0)], fun ⟨i, _⟩ => l.length - i, (0, some ⟨g1, 0, .none⟩, 1, 1, (itCt l.length).cells), ⟨Nat.zero_le _, rfl, rfl, .inr ⟨g1, rfl⟩⟩, ⟨rfl, rfl, trivial⟩, Ent.refl _, ?_⟩
  rintro ⟨i, A, n, cap, xs⟩ ⟨hi, hn1, hx1, hg⟩ js
  have hi : i ≤ l.length := hi
  refine ⟨fun hb => ?_, fun hb => ?_⟩
  · replace hb := of_decide_eq_true hb
    have hlt : i < l.length := by omega
    have hget : l[i]? = some (l.getD i []) := by rw [List.getD_eq_getElem?_getD, List.getElem?_eq_getElem hlt]; rfl
    obtain ⟨a, rfl, hr⟩ := hsr.one hlt
    refine ⟨by omega, by omega, a, rfl, _, .inl hr, ?_⟩
    refine ⟨rfl, fun g2 => ?_⟩
    refine ⟨(itS (l.getD i [])).cells, rfl, slr_src (SlR.own 1 rfl rfl (.inr ⟨g2, rfl⟩)), rfl, by show (_ + 1) * 56 ≤ _; omega, by omega, .inr ⟨0, rfl, rfl, rfl, rfl, rfl, rfl, fun A3 cap3 hg3 => ?_⟩⟩
    (intro z hz; obtain rfl : z = ((i + 1 : Nat) : Int) := (by first | (rw [IntKind.wrap_i64] at hz; omega) | (rw [IntKind.wrap_u64] at hz; omega) | omega); clear hz)
    exact ⟨rfl, (i + 1, A3, n + 1, cap3, xs ++ (itS (l.getD i [])).cells), ⟨hlt, by omega, by rw [List.take_add_one, hget, hx1]; simp [iC], hg3⟩, by show l.length - (i + 1) < l.length - i; omega, ⟨rfl, rfl, trivial⟩, Ent.pick [0] rfl, rfl⟩
  · replace hb := of_decide_eq_false hb
    obtain rfl : i = l.length := by omega
    rw [List.take_length] at hx1
    have e : n = (itemsL l).length := by rw [itemsL_length]; omega
    subst e hx1
    exact ⟨_, Ent.refl _, A, cap, rfl, rfl, hg⟩

theorem items_own {R : Rd} {h : Hp} (i : Nat) {A : Option Addr} {n cap : Nat} {e : TypeId} {l : List Item} (hi : h[i]? = some (.row A n cap e 6 (iC l) (0, 0))) (hn : n = l.length) (hg : grow n A) : ItemsR (RH R h) (.slice A n cap) l := by
  subst hn
  exact SlR.own i hi (iC_length l) hg
set_option maxRecDepth 100000 in
set_option maxHeartbeats 8000000 in
theorem rEncH_ok0 (R : Rd) (x : Hd) (B : Value) (w : WfH x) (hs : Ss R B x.sums) : Fn Tryz.prog 30 [.agg ⟨hdC x B⟩] [] R
    (fun v h => ∃ A cap, v = .slice A (encH x).length cap ∧ h = [.row A (encH x).length cap 5 1 (BV (encH x)) (0, 0)] ∧ grow (encH x).length A) := by
  have hML := maxLen_eq
  have hle := encH_le w
  have w' := w
  obtain ⟨a1, a2, a3, a4, a5, a6, a7, a8⟩ := w'
  refine fn_of_vc mixed tabOk Tryz.func30 rfl (by kernel_rfl) (Nat.le_of_ble_eq_true rfl) ?_
  intro gb
  refine ⟨[0], .cut (.q 0 (.q 1 (.q 2 (.q 3 (.q 4 (.q 5 (.q 6 (.q 8 (.q 9 (.q 12 (.q 13 (.one 7 (.one 10 (.two 11 (.one 14 (.one 15 (.one 16 (.q 17 (.q 18 (.q 19 (.q 20 (.q 21 .nil)))))))) 14 (.one 11 (.one 15 (.one 16 (.q 17 (.q 18 (.q 19 (.q 20 (.q 21 .nil)))))))))))))))))))))), by kernel_rfl, [none, none, none, some 3, some 4, some 5, some 6, some 7, some 8, some 9, some 10, some 11, some 12, some 13, some 14, some 15, some 16, some 17, some 18, some 19, some 20, some 21, some 22, some 23, some 24], ?_⟩
  refine ⟨[3], Option Addr × Nat, fun ⟨A, cap⟩ => grow (encH x).length A, fun ⟨A, cap⟩ => [.slice A (encH x).length cap], fun ⟨A, cap⟩ => [.row A (encH x).length cap 5 1 (BV (encH x)) (0, 0)], ?_, ?_⟩
  · refine ⟨_, ld 0 rfl rfl, ?_⟩
    refine ⟨_, ld 0 rfl rfl, ?_⟩
    refine ⟨_, ld 0 rfl rfl, ?_⟩
    refine ⟨_, ld 0 rfl rfl, ?_⟩
    refine ⟨[], _, rnumber_ok _ x.ix a5 (by omega), ?_⟩
    rintro _ _ ⟨rfl, rfl⟩
    refine ⟨[], _, rnumber_ok _ x.sz (by omega) (by omega), ?_⟩
    rintro _ _ ⟨rfl, rfl⟩
    refine ⟨?_, ?_⟩
    · refine ⟨rfl, fun g1 => ?_⟩
      refine ⟨[], _, rsums_ok _ x.sums B (by omega) ((hs.rh _).rh _), ?_⟩
      rintro _ _ ⟨As, cs, rfl, rfl, hgs⟩
      refine ⟨iC (itemsL x.sums), iC_length _, slr_src (SlR.own 1 rfl (iC_length _) hgs), iC_one _, by rw [itemsL_length]; show (_ + _) * 56 ≤ _; omega, by rw [itemsL_length]; omega, .inr ⟨0, rfl, rfl, rfl, rfl, rfl, rfl, fun A5 cap5 hg5 => ?_⟩⟩
      refine ⟨[], _, refEncode_w _ _ (itemsH x) (fun y hy => (oks_H w y hy).1) (by unfold itemsH; rw [List.length_append, itemsL_length]; show _ + _ ≤ _; simp only [List.length_cons, List.length_nil]; omega) (fun y hy => (oks_H w y hy).2) ((items_own 0 rfl (by unfold itemsH; rw [List.length_append]; rfl) hg5)), ?_⟩
      rw [encS_H w]
      rintro _ _ ⟨_, rfl, A6, k6, cap6, xs6, rfl, rfl, hk6, hx6, hg6⟩
      have e1 : doneB (encH x) 0 = encH x := by rw [doneB, if_pos ⟨rfl, by omega⟩]
      rw [show doneB ((encH x, (0 : Int))).1 ((encH x, (0 : Int))).2 = encH x from e1] at hk6 hx6
      subst hk6 hx6
      exact ⟨rfl, (A6, cap6), hg6, ⟨rfl, trivial⟩, Ent.pick [2] rfl, rfl⟩
    · refine ⟨[], _, rsums_ok _ x.sums B (by omega) ((hs.rh _).rh _), ?_⟩
      rintro _ _ ⟨As, cs, rfl, rfl, hgs⟩
      refine ⟨rfl, fun g1 => ?_⟩
      refine ⟨iC (itemsL x.sums), iC_length _, slr_src (SlR.own 0 rfl (iC_length _) hgs), iC_one _, by rw [itemsL_length]; show (_ + _) * 56 ≤ _; omega, by rw [itemsL_length]; omega, .inr ⟨1, rfl, rfl, rfl, rfl, rfl, rfl, fun A5 cap5 hg5 => ?_⟩⟩
      refine ⟨[], _, refEncode_w _ _ (itemsH x) (fun y hy => (oks_H w y hy).1) (by unfold itemsH; rw [List.length_append, itemsL_length]; show _ + _ ≤ _; simp only [List.length_cons, List.length_nil]; omega) (fun y hy => (oks_H w y hy).2) ((items_own 1 rfl (by unfold itemsH; rw [List.length_append]; rfl) hg5)), ?_⟩
      rw [encS_H w]
      rintro _ _ ⟨_, rfl, A6, k6, cap6, xs6, rfl, rfl, hk6, hx6, hg6⟩
      have e1 : doneB (encH x) 0 = encH x := by rw [doneB, if_pos ⟨rfl, by omega⟩]
      rw [show doneB ((encH x, (0 : Int))).1 ((encH x, (0 : Int))).2 = encH x from e1] at hk6 hx6
      subst hk6 hx6
      exact ⟨rfl, (A6, cap6), hg6, ⟨rfl, trivial⟩, Ent.pick [2] rfl, rfl⟩
  rintro ⟨A, cap⟩ hg js
  exact ⟨_, Ent.pick [1] rfl, A, cap, rfl, rfl, hg⟩

end Go.Proofs.YtnifppnpplgghaaGreatDoor
