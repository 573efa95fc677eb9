/-
  The law SnapshotMerges.
-/
import Derived.Test.YtoddabjacjkjbaaDoorSal
import Derived.Test.YtoddabjacjkjbaaDoorSah
namespace Go.Proofs.YtoddabjacjkjbaaDoor
open Go Go.RowKit
set_option linter.unusedVariables false

theorem sops_length (l : List SOp) : (sops l).length = l.length * 15 := flat_len fun _ _ => rfl
theorem sops_one (l : List SOp) : allOne (sops l) = true := by
  refine allOne_of fun u hu => ?_
  obtain ⟨m, _, hm⟩ := List.mem_flatMap.1 hu
  simp only [SOp.cells, List.mem_cons, List.not_mem_nil, or_false] at hm
  rcases hm with rfl | rfl | rfl | rfl | rfl | rfl | rfl | rfl | rfl | rfl | rfl | rfl | rfl | rfl | rfl <;> rfl
theorem sops_app (a b : List SOp) : sops (a ++ b) = sops a ++ sops b := by simp [sops]
theorem built_app (R : Rd) (hG : ShaG R) {A : Option Addr} {cap n : Nat} {a b : List SOp} (hs : SlR R 15 (.slice A n cap) n (sops a ++ sops b)) (hl : n = a.length + b.length) (hn : n ≤ 4000) (ha : ∀ x ∈ a, x.s.Ok) (hb : ∀ x ∈ b, x.s.Ok) :
    Fn Tryd.prog 32 [.slice A n cap] [] R (fun v h => Built (runC C00 (a ++ b)) v h) := by
  have e : n = (a ++ b).length := by rw [List.length_append]; exact hl
  rw [← sops_app] at hs
  subst e
  exact built_ok R hG hs hn fun x hx => (List.mem_append.1 hx).elim (ha x) (hb x)
theorem good_mergeR {C D : Lg} (hC : GoodC C) (hD : GoodC D) : GoodC (mergeR C D).1 ∧ countC (mergeR C D).1 ≤ countC C + countC D := by
  have hcm := count_le_merge C D
  unfold mergeR
  by_cases h : agreesB C D = true
  · rw [if_pos h]
    by_cases h2 : 4096 < countC (mergeC C D)
    · rw [if_pos h2]; exact ⟨hC, Nat.le_add_right _ _⟩
    · rw [if_neg h2]; exact ⟨hC.merge hD ((agreesB_iff hC).1 h), hcm⟩
  · rw [if_neg h]; exact ⟨hC, Nat.le_add_right _ _⟩

end Go.Proofs.YtoddabjacjkjbaaDoor
