/-
  The reference's kinds of values.
-/
import Derived.Test.YtoddabjacjkjbaaW3
namespace Go.Proofs.Ytoddabjacjkjbaa
open Go Go.RowKit

def knownB (k : Int) : Bool := decide (1 ≤ k) && decide (k ≤ 7)
theorem Known_ok (R : Rd) (k : Int) : Fn Try.prog 6 [.int .i64 k] [] R (fun v h => v = .bool (knownB k) ∧ h = []) := by
  refine fn_of_vc mixed tabOk Try.func6 rfl (by kernel_rfl) (Nat.le_of_ble_eq_true rfl) ?_
  by_cases h1 : 1 ≤ k
  · repeat (focus (refine ⟨fun h => ?_, fun h => ?_⟩; first | (focus (exfalso; first | (simp at h; done) | exact absurd (of_decide_eq_true h) (by assumption) | exact absurd (by assumption) (of_decide_eq_false h))) | (rotate_left; focus (exfalso; first | (simp at h; done) | exact absurd (of_decide_eq_true h) (by assumption) | exact absurd (by assumption) (of_decide_eq_false h))) | (focus (exfalso; simp at h; omega)) | (rotate_left; focus (exfalso; simp at h; omega)); clear h))
    refine ⟨_, Ent.refl _, ?_, rfl⟩
    show Value.bool (decide (k ≤ 7)) = _
    rw [knownB, decide_eq_true h1, Bool.true_and]
  · repeat (focus (refine ⟨fun h => ?_, fun h => ?_⟩; first | (focus (exfalso; first | (simp at h; done) | exact absurd (of_decide_eq_true h) (by assumption) | exact absurd (by assumption) (of_decide_eq_false h))) | (rotate_left; focus (exfalso; first | (simp at h; done) | exact absurd (of_decide_eq_true h) (by assumption) | exact absurd (by assumption) (of_decide_eq_false h))) | (focus (exfalso; simp at h; omega)) | (rotate_left; focus (exfalso; simp at h; omega)); clear h))
    refine ⟨_, Ent.refl _, ?_, rfl⟩
    show Value.bool false = _
    rw [knownB, decide_eq_false h1, Bool.false_and]


end Go.Proofs.Ytoddabjacjkjbaa
