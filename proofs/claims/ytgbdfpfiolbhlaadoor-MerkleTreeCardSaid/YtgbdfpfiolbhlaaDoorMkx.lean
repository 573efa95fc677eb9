/-
  Trees that grow: their memory (at most five levels), Len.
-/
import Derived.Test.YtgbdfpfiolbhlaaDoorMkm
import Derived.Test.YtgbdfpfiolbhlaaDoorMkw
namespace Go.Proofs.YtgbdfpfiolbhlaaDoor
open Go Go.RowKit
set_option linter.unusedVariables false

/-- A level: its slice's base, capacity and texts. -/
structure Lv where
  A : Option Addr
  c : Nat
  L : List Str
def Lv.val (v : Lv) : Value := .slice v.A v.L.length v.c
def Lv.row (v : Lv) : HA := .row v.A v.L.length v.c 9 1 (SV v.L) (0, 0)
def Lv.no : Lv := ⟨.none, 0, []⟩
/-- A tree in memory: the first K of five levels are there. -/
def treeH (g gl K cl : Nat) (a b c d e : Lv) : Hp :=
  [.blk g 85 [.slice (some ⟨gl, 0, .none⟩) K cl], .row (some ⟨gl, 0, .none⟩) K cl 27 1 ([a.val, b.val, c.val, d.val, e.val].take K) (0, 0), a.row, b.row, c.row, d.row, e.row]

theorem Len_tree (R : Rd) (g gl K cl : Nat) (a b c d e : Lv) (hK : 1 ≤ K) (hK5 : K ≤ 5) :
    Fn Tryd.prog 50 [.pointer (some ⟨g, 0, .none⟩)] (treeH g gl K cl a b c d e) R (fun v h => v = .int .i64 a.L.length ∧ h = treeH g gl K cl a b c d e) := by
  refine fn_of_vc mixed tabOk Tryd.func50 rfl (by kernel_rfl) (Nat.le_of_ble_eq_true rfl) ?_
  refine ⟨_, ld 0 rfl rfl, ?_⟩
  repeat (first | (refine ⟨fun h => ?_, fun h => ?_⟩; rotate_left 1; (focus (exfalso; (first | (with_reducible (cases h; done)) | (revert h; simp; done) | (revert h; simp; omega) | (revert h; simp [*]; done)))); clear h) | (refine ⟨fun h => ?_, fun h => ?_⟩; (focus (exfalso; (first | (with_reducible (cases h; done)) | (revert h; simp; done) | (revert h; simp; omega) | (revert h; simp [*]; done)))); clear h))
  refine ⟨_, ld 0 rfl rfl, ?_⟩
  refine ⟨by decide, by omega, _, rfl, ?_⟩
  refine ⟨a.val, ldr 1 rfl (by rw [List.getElem?_take, if_pos (by omega)]; rfl), ?_⟩
  exact ⟨_, Ent.refl _, rfl, rfl⟩

end Go.Proofs.YtgbdfpfiolbhlaaDoor
