/-
  Transfer: contracts of the reference's encodings, of its parts, and of the law's helpers.
-/
import Derived.Test.YtoddabjacjkjbaaDoorTrh
namespace Go.Proofs.YtoddabjacjkjbaaDoor
open Go Go.RowKit
set_option linter.unusedVariables false

/-! ### the law's helpers -/
set_option maxRecDepth 100000 in
set_option maxHeartbeats 2000000 in
theorem texts_ok (R : Rd) (a b : List Str) (u v : Value) (ha : a.length ≤ 1000000000000) (hu : Ss R u a) (hv : Ss R v b) : Fn Tryd.prog 139 [u, v] [] R (fun v h => v = .bool (decide (a = b)) ∧ h = []) := by
  obtain ⟨A, cap, rfl, hc, hs⟩ := hu
  obtain ⟨B, cb, rfl, hcb, ht⟩ := hv
  refine fn_of_vc mixed tabOk Tryd.func139 rfl (by kernel_rfl) (Nat.le_of_ble_eq_true rfl) ?_
  by_cases hl : (a.length : Int) = b.length
  case neg =>
    repeat (first | (refine ⟨fun h => ?_, fun h => ?_⟩; rotate_left 1; (focus (exfalso; (first | (with_reducible (cases h; done)) | (revert h; simp; done) | (revert h; simp; omega) | (revert h; simp [*]; done)))); clear h) | (refine ⟨fun h => ?_, fun h => ?_⟩; (focus (exfalso; (first | (with_reducible (cases h; done)) | (revert h; simp; done) | (revert h; simp; omega) | (revert h; simp [*]; done)))); clear h))
    exact ⟨_, Ent.refl _, no_D rfl (fun e => hl (by rw [e])), rfl⟩
  have hl2 : a.length = b.length := by omega
  repeat (first | (refine ⟨fun h => ?_, fun h => ?_⟩; rotate_left 1; (focus (exfalso; (first | (with_reducible (cases h; done)) | (revert h; simp; done) | (revert h; simp; omega) | (revert h; simp [*]; done)))); clear h) | (refine ⟨fun h => ?_, fun h => ?_⟩; (focus (exfalso; (first | (with_reducible (cases h; done)) | (revert h; simp; done) | (revert h; simp; omega) | (revert h; simp [*]; done)))); clear h))
  refine ⟨[none, none, none, none, some 4, some 5, none, none, none, none, none, some 11, some 12, some 13, some 14, some 15, some 16, some 17, some 18, some 19, some 20, some 21, some 22, some 23, some 24, some 25], [5], Nat, fun i => i ≤ a.length ∧ a.take i = b.take i, fun i => [.int .i64 i], fun _ => [], fun i => a.length - i, 0, ⟨Nat.zero_le _, rfl⟩, ⟨rfl, trivial⟩, Ent.refl _, ?_⟩
  rintro i ⟨hi, he⟩ js
  refine ⟨fun hb => ?_, fun hb => ?_⟩
  · replace hb := of_decide_eq_true hb
    have hlt : i < a.length := by omega
    obtain ⟨x, rfl, hx⟩ := hs.one hlt
    obtain ⟨y, rfl, hy⟩ := ht.one (show i < b.length by omega)
    have hga : a[i]? = some (a.getD i []) := by rw [List.getD_eq_getElem?_getD, List.getElem?_eq_getElem hlt]; rfl
    have hgb : b[i]? = some (b.getD i []) := by rw [List.getD_eq_getElem?_getD, List.getElem?_eq_getElem (show i < b.length by omega)]; rfl
    generalize a.getD i [] = s at *
    generalize b.getD i [] = t at *
    refine ⟨[], lexT 0 9, by kernel_rfl, ?_⟩
    refine ⟨by omega, by omega, x, rfl, _, .inl hx, ?_⟩
    refine ⟨by omega, by omega, y, rfl, _, .inl hy, ?_⟩
    by_cases c : s = t
    · subst c
      repeat (first | (refine ⟨fun h => ?_, fun h => ?_⟩; rotate_left 1; (focus (exfalso; (first | (with_reducible (cases h; done)) | (revert h; simp; done) | (revert h; simp; omega) | (revert h; simp [*]; done)))); clear h) | (refine ⟨fun h => ?_, fun h => ?_⟩; (focus (exfalso; (first | (with_reducible (cases h; done)) | (revert h; simp; done) | (revert h; simp; omega) | (revert h; simp [*]; done)))); clear h))
      (intro z hz; obtain rfl : z = ((i + 1 : Nat) : Int) := (by first | (rw [IntKind.wrap_i64] at hz; omega) | (rw [IntKind.wrap_u64] at hz; omega) | omega); clear hz)
      exact ⟨rfl, i + 1, ⟨hlt, by rw [List.take_add_one, List.take_add_one, hga, hgb, he]⟩, by show a.length - (i + 1) < a.length - i; omega, ⟨rfl, trivial⟩, Ent.refl _, rfl⟩
    · repeat (first | (refine ⟨fun h => ?_, fun h => ?_⟩; rotate_left 1; (focus (exfalso; (first | (with_reducible (cases h; done)) | (revert h; simp; done) | (revert h; simp; omega) | (revert h; simp [*]; done)))); clear h) | (refine ⟨fun h => ?_, fun h => ?_⟩; (focus (exfalso; (first | (with_reducible (cases h; done)) | (revert h; simp; done) | (revert h; simp; omega) | (revert h; simp [*]; done)))); clear h))
      exact ⟨_, Ent.refl _, no_D rfl (fun e => c (by rw [e, hgb] at hga; exact (Option.some.inj hga).symm)), rfl⟩
  · replace hb := of_decide_eq_false hb
    obtain rfl : i = a.length := by omega
    rw [List.take_length, hl2, List.take_length] at he
    exact ⟨_, Ent.refl _, yes_D rfl he, rfl⟩

end Go.Proofs.YtoddabjacjkjbaaDoor
