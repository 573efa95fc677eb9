/-
  Trees that grow: the levels of one more leaf (plain).
-/
import Derived.Test.YtgbdfpfiolbhlaaDoorMlb
namespace Go.Proofs.YtgbdfpfiolbhlaaDoor
open Go Go.RowKit
set_option linter.unusedVariables false

theorem take_one_root {l : List Str} {i : Nat} (h : i < l.length) : rootOf ((l.drop i).take 1) = l.getD i [] := by
  have h1 : ((l.drop i).take 1).length = 1 := by rw [List.length_take, List.length_drop]; omega
  rw [rootOf_one h1, List.getD_eq_getElem?_getD, List.getD_eq_getElem?_getD, List.getElem?_take, if_pos (by omega), List.getElem?_drop]; rfl
/-- The lowest level is the leaves. -/
theorem lvl_leaves (l : List Str) : lvl 0 l = l := by
  apply List.ext_getElem?
  intro i
  by_cases h : i < l.length
  · have h2 : i < l.length / 2 ^ 0 := by simpa using h
    rw [lvl, List.getElem?_map, List.getElem?_range h2, List.getElem?_eq_getElem h]
    show some (rootOf ((l.drop (i * 2 ^ 0)).take (2 ^ 0))) = _
    rw [Nat.pow_zero, Nat.mul_one, take_one_root h, List.getD_eq_getElem?_getD, List.getElem?_eq_getElem h]; rfl
  · rw [List.getElem?_eq_none (by rw [lvl_zero]; omega), List.getElem?_eq_none (by omega)]

theorem part_same {l : List Str} {x : Str} {j i : Nat} (h : i < l.length / 2 ^ j) : ((l ++ [x]).drop (i * 2 ^ j)).take (2 ^ j) = (l.drop (i * 2 ^ j)).take (2 ^ j) := by
  have h1 : (i + 1) * 2 ^ j ≤ l.length := Nat.le_trans (Nat.mul_le_mul_right _ h) (Nat.div_mul_le_self _ _)
  rw [Nat.succ_mul] at h1
  generalize 2 ^ j = p at *
  rw [List.drop_append_of_le_length (by omega), List.take_append_of_le_length (by rw [List.length_drop]; omega)]
theorem lvl_same {l : List Str} {x : Str} {j : Nat} (h : ¬ 2 ^ j ∣ l.length + 1) : lvl j (l ++ [x]) = lvl j l := by
  have hd : (l ++ [x]).length / 2 ^ j = l.length / 2 ^ j := by
    rw [List.length_append]
    exact Nat.succ_div_of_not_dvd h
  rw [lvl, lvl, hd]
  exact List.map_congr_left fun i hi => by rw [part_same (List.mem_range.1 hi)]
theorem lvl_more {l : List Str} {x : Str} {j : Nat} (h : 2 ^ j ∣ l.length + 1) : lvl j (l ++ [x]) = lvl j l ++ [rootOf (((l ++ [x]).drop (l.length / 2 ^ j * 2 ^ j)).take (2 ^ j))] := by
  have hd : (l ++ [x]).length / 2 ^ j = l.length / 2 ^ j + 1 := by
    rw [List.length_append]
    exact Nat.succ_div_of_dvd h
  rw [lvl, lvl, hd, List.range_succ, List.map_append]
  congr 1
  exact List.map_congr_left fun i hi => by rw [part_same (List.mem_range.1 hi)]

/-- The root of a whole subtree out of its halves'. -/
theorem root_pow {S : List Str} {j : Nat} (h : S.length = 2 ^ (j + 1)) : rootOf S = nodeOf (rootOf (S.take (2 ^ j))) (rootOf (S.drop (2 ^ j))) := by
  have hp := Nat.two_pow_pos j
  rw [Nat.pow_succ] at h
  have hs : 2 ^ j = splitN S.length := splitN_unique (e := j) rfl (by omega) (by omega)
  rw [rootOf_two (by omega), ← hs]

end Go.Proofs.YtgbdfpfiolbhlaaDoor
