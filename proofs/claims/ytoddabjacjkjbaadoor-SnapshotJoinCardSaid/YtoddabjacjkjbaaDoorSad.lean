/-
  Contract: same.
-/
import Derived.Test.YtoddabjacjkjbaaDoorSac
namespace Go.Proofs.YtoddabjacjkjbaaDoor
open Go Go.RowKit
set_option linter.unusedVariables false

/-! ### same -/
theorem snaps_nil : snaps [] = [] := rfl
theorem Of_okC (R : Rd) {g r : Nat} {st : List WR} {c : Nat} {C : Lg} (hL : LogR R g r st) (hch : ∀ w, chainOf st w = C w) (hC : GoodC C) (hn : countC C ≤ 100000) (w : Int) :
    Fn Tryd.prog 82 [.pointer (some ⟨g, 0, .none⟩), .int .i64 w] [logM r st c] R (fun v h => ∃ h1, OwnSn v ((C w).map Rec.shown) h1 ∧ h = logM r st c :: h1) := by
  have hlc := len_le_count hC.out w
  have := Of_ok R (c := c) hL w (by rw [hch]; omega)
  rw [hch] at this
  refine Fn.ent this ?_
  rintro _ _ ⟨A, cap, hg, rfl, rfl⟩
  exact ⟨_, Ent.refl _, [_], OwnSn.of (List.length_map _).symm hg, rfl⟩

end Go.Proofs.YtoddabjacjkjbaaDoor
