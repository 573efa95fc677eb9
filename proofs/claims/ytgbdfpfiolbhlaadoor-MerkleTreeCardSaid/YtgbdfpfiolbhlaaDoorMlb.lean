/-
  Trees that grow: a tree of the call's own is one that can be read.
-/
import Derived.Test.YtgbdfpfiolbhlaaDoorMla
namespace Go.Proofs.YtgbdfpfiolbhlaaDoor
open Go Go.RowKit
set_option linter.unusedVariables false

structure TreeOk (l : List Str) (K : Nat) (a b c d e : Lv) : Prop where
  k1 : 1 ≤ K
  k5 : K ≤ 5
  kk : ∀ j, 2 ^ j ≤ l.length → j < K
  la : a.L = lvl 0 l
  lb : b.L = lvl 1 l
  lc : c.L = lvl 2 l
  ld : d.L = lvl 3 l
  le : e.L = lvl 4 l
  ga : grow a.L.length a.A
  gb : grow b.L.length b.A
  gc : grow c.L.length c.A
  gd : grow d.L.length d.A
  ge : grow e.L.length e.A

theorem tree_read (R : Rd) {g gl K cl : Nat} {l : List Str} {a b c d e : Lv} (h : TreeOk l K a b c d e) : TreeR (RH R (treeH g gl K cl a b c d e)) g l := by
  refine ⟨gl, K, cl, fun j => match j with | 0 => a | 1 => b | 2 => c | 3 => d | _ => e, h.k5, ld 0 rfl rfl, fun j hj => ?_⟩
  have hjK : j < K := by
    rcases hj with rfl | hj
    · exact h.k1
    · exact h.kk j hj
  have h5 := h.k5
  refine ⟨hjK, ?_⟩
  match j, hjK with
  | 0, hjK => exact ⟨ldr1 1 rfl (by rw [List.getElem?_take, if_pos hjK]; rfl), SsR.ownL _ 2 rfl rfl h.ga, h.la⟩
  | 1, hjK => exact ⟨ldr1 1 rfl (by rw [List.getElem?_take, if_pos hjK]; rfl), SsR.ownL _ 3 rfl rfl h.gb, h.lb⟩
  | 2, hjK => exact ⟨ldr1 1 rfl (by rw [List.getElem?_take, if_pos hjK]; rfl), SsR.ownL _ 4 rfl rfl h.gc, h.lc⟩
  | 3, hjK => exact ⟨ldr1 1 rfl (by rw [List.getElem?_take, if_pos hjK]; rfl), SsR.ownL _ 5 rfl rfl h.gd, h.ld⟩
  | 4, hjK => exact ⟨ldr1 1 rfl (by rw [List.getElem?_take, if_pos hjK]; rfl), SsR.ownL _ 6 rfl rfl h.ge, h.le⟩
  | n + 5, hjK => omega

end Go.Proofs.YtgbdfpfiolbhlaaDoor
