/-
  The laws SnapshotNext and SnapshotLatest.
-/
import Derived.Test.YtoddabjacjkjbaaDoorSaf
namespace Go.Proofs.YtoddabjacjkjbaaDoor
open Go Go.RowKit
set_option linter.unusedVariables false

theorem built_good (l : List SOp) : GoodC (runC C00 l) ∧ countC (runC C00 l) ≤ l.length := by
  obtain ⟨h1, h2⟩ := runC_good GoodC.empty l
  rw [count_empty, Nat.zero_add] at h2
  exact ⟨h1, h2⟩

end Go.Proofs.YtoddabjacjkjbaaDoor
