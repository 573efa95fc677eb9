/-
  The law SnapshotVerifies.
-/
import Derived.Test.YtbgfnofjnbpdgaaDoorSaf
namespace Go.Proofs.YtbgfnofjnbpdgaaDoor
open Go Go.RowKit
set_option linter.unusedVariables false

theorem SumV (R : Rd) (hG : ShaG R) (s : Snap) (hv : validB s = true) : Fn Tryd.prog 20 [.agg ⟨s.cells⟩] [] R (fun v h => v = .tuple ⟨[.string ⟨⟨sumP s⟩⟩, .int .i64 0]⟩ ∧ h = []) := by
  have := Sum_okS R hG s
  rw [if_pos hv, if_pos hv] at this
  exact this
theorem SumN (R : Rd) (hG : ShaG R) (s : Snap) (hv : ¬ validB s = true) : Fn Tryd.prog 20 [.agg ⟨s.cells⟩] [] R (fun v h => v = .tuple ⟨[.string ⟨⟨[]⟩⟩, .int .i64 1]⟩ ∧ h = []) := by
  have := Sum_okS R hG s
  rw [if_neg hv, if_neg hv] at this
  exact this
theorem ValV (R : Rd) (s : Snap) (hs : s.Ok) {b : Bool} (hv : validB s = b) : Fn Tryd.prog 21 [.agg ⟨s.cells⟩] [] R (fun v h => v = .bool b ∧ h = []) := by
  rw [← hv]
  exact refValid_ok R s hs.q1 hs.q2

set_option maxRecDepth 100000 in
set_option maxHeartbeats 8000000 in
theorem SnapshotVerifies_law (R : Rd) (hG : ShaG R) (v0 : Value) (s0 : SeenV R (.sl 10 SnShp) v0) :
    Fn Tryd.prog 4 [v0] [] R (fun v _ => v = .bool true) := by
  obtain ⟨l, A, cap, hok, rfl, hcap, hs⟩ := s0.snapsV
  refine fn_of_vc mixed tabOk Tryd.func4 rfl (by kernel_rfl) (Nat.le_of_ble_eq_true rfl) ?_
  refine ⟨[], _, awake26_ok _ (hG.rh _), ?_⟩
  rintro _ _ ⟨rfl, rfl⟩
  repeat (first | (refine ⟨fun h => ?_, fun h => ?_⟩; rotate_left 1; (focus (exfalso; (first | (with_reducible (cases h; done)) | (revert h; simp; done) | (revert h; simp; omega) | (revert h; simp [*]; done)))); clear h) | (refine ⟨fun h => ?_, fun h => ?_⟩; (focus (exfalso; (first | (with_reducible (cases h; done)) | (revert h; simp; done) | (revert h; simp; omega) | (revert h; simp [*]; done)))); clear h))
  by_cases hlen : (30 : Int) < l.length
  · repeat (first | (refine ⟨fun h => ?_, fun h => ?_⟩; rotate_left 1; (focus (exfalso; (first | (with_reducible (cases h; done)) | (revert h; simp; done) | (revert h; simp; omega) | (revert h; simp [*]; done)))); clear h) | (refine ⟨fun h => ?_, fun h => ?_⟩; (focus (exfalso; (first | (with_reducible (cases h; done)) | (revert h; simp; done) | (revert h; simp; omega) | (revert h; simp [*]; done)))); clear h))
    exact ⟨_, Ent.nil _, rfl⟩
  repeat (first | (refine ⟨fun h => ?_, fun h => ?_⟩; rotate_left 1; (focus (exfalso; (first | (with_reducible (cases h; done)) | (revert h; simp; done) | (revert h; simp; omega) | (revert h; simp [*]; done)))); clear h) | (refine ⟨fun h => ?_, fun h => ?_⟩; (focus (exfalso; (first | (with_reducible (cases h; done)) | (revert h; simp; done) | (revert h; simp; omega) | (revert h; simp [*]; done)))); clear h))
  refine ⟨[none, none, some 2, some 3, some 4, some 5, none, none, none, none, none, some 11, some 12, some 13, some 14, some 15, some 16, some 17, some 18, some 19, some 20, some 21, some 22, some 23, some 24, some 25, some 26, some 27, some 28, some 29, some 30, some 31, some 32, some 33, some 34, some 35, some 36, some 37, some 38, some 39, some 40, some 41, some 42, some 43, some 44, some 45, some 46, some 47, some 48, some 49, some 50, some 51, some 52, some 53, some 54, some 55, some 56, some 57, some 58], [3], Nat, fun k => k ≤ l.length, fun k => [.int .i64 k], fun k => [], fun k => l.length - k, 0, Nat.zero_le _, ⟨rfl, trivial⟩, Ent.refl _, ?_⟩
  intro k hk js
  refine ⟨fun hb => ?_, fun hb => ?_⟩
  · replace hb := of_decide_eq_true hb
    have hil : k < l.length := by omega
    clear hb
    have hget := List.getElem?_eq_getElem hil
    have hmem : l[k] ∈ l := List.getElem_mem hil
    generalize l[k] = s at hget hmem
    obtain ⟨a, hA, hr⟩ := slr_at (c := Snap.cells) (fun _ => rfl) (by omega) hs hget
    refine ⟨by omega, by omega, a, hA, ?_⟩
    refine ⟨s.cells, fun j u hu => .inl (rdnS (vs := s.cells) (fun j u hu => hr j u hu) j u hu), rfl, ?_⟩
    by_cases hv : validB s = true
    · refine ⟨[], _, SumV _ (hG.rh _) s hv, ?_⟩
      rintro _ _ ⟨rfl, rfl⟩
      refine ⟨by omega, by omega, a, hA, ?_⟩
      refine ⟨s.cells, fun j u hu => .inl (rdnS (vs := s.cells) (fun j u hu => hr j u hu) j u hu), rfl, ?_⟩
      refine ⟨[], _, ValV _ s (hok s hmem) hv, ?_⟩
      rintro _ _ ⟨rfl, rfl⟩
      repeat (first | (refine ⟨fun h => ?_, fun h => ?_⟩; rotate_left 1; (focus (exfalso; (first | (with_reducible (cases h; done)) | (revert h; simp; done) | (revert h; simp; omega) | (revert h; simp [*]; done)))); clear h) | (refine ⟨fun h => ?_, fun h => ?_⟩; (focus (exfalso; (first | (with_reducible (cases h; done)) | (revert h; simp; done) | (revert h; simp; omega) | (revert h; simp [*]; done)))); clear h))
      refine ⟨by omega, by omega, a, hA, ?_⟩
      repeat (first | (refine ⟨fun h => ?_, fun h => ?_⟩; rotate_left 1; (focus (exfalso; (first | (with_reducible (cases h; done)) | (revert h; simp; done) | (revert h; simp; omega) | (revert h; simp [*]; done)))); clear h) | (refine ⟨fun h => ?_, fun h => ?_⟩; (focus (exfalso; (first | (with_reducible (cases h; done)) | (revert h; simp; done) | (revert h; simp; omega) | (revert h; simp [*]; done)))); clear h))
      refine ⟨s.cells, fun j u hu => .inl (rdnS (vs := s.cells) (fun j u hu => hr j u hu) j u hu), rfl, ?_⟩
      repeat (first | (refine ⟨fun h => ?_, fun h => ?_⟩; rotate_left 1; (focus (exfalso; (first | (with_reducible (cases h; done)) | (revert h; simp; done) | (revert h; simp; omega) | (revert h; simp [*]; done)))); clear h) | (refine ⟨fun h => ?_, fun h => ?_⟩; (focus (exfalso; (first | (with_reducible (cases h; done)) | (revert h; simp; done) | (revert h; simp; omega) | (revert h; simp [*]; done)))); clear h))
      refine ⟨[], _, ValV _ s (hok s hmem) hv, ?_⟩
      rintro _ _ ⟨rfl, rfl⟩
      repeat (first | (refine ⟨fun h => ?_, fun h => ?_⟩; rotate_left 1; (focus (exfalso; (first | (with_reducible (cases h; done)) | (revert h; simp; done) | (revert h; simp; omega) | (revert h; simp [*]; done)))); clear h) | (refine ⟨fun h => ?_, fun h => ?_⟩; (focus (exfalso; (first | (with_reducible (cases h; done)) | (revert h; simp; done) | (revert h; simp; omega) | (revert h; simp [*]; done)))); clear h))
      refine ⟨by omega, by omega, a, hA, ?_⟩
      repeat (first | (refine ⟨fun h => ?_, fun h => ?_⟩; rotate_left 1; (focus (exfalso; (first | (with_reducible (cases h; done)) | (revert h; simp; done) | (revert h; simp; omega) | (revert h; simp [*]; done)))); clear h) | (refine ⟨fun h => ?_, fun h => ?_⟩; (focus (exfalso; (first | (with_reducible (cases h; done)) | (revert h; simp; done) | (revert h; simp; omega) | (revert h; simp [*]; done)))); clear h))
      refine ⟨s.cells, fun j u hu => .inl (rdnS (vs := s.cells) (fun j u hu => hr j u hu) j u hu), rfl, ?_⟩
      repeat (first | (refine ⟨fun h => ?_, fun h => ?_⟩; rotate_left 1; (focus (exfalso; (first | (with_reducible (cases h; done)) | (revert h; simp; done) | (revert h; simp; omega) | (revert h; simp [*]; done)))); clear h) | (refine ⟨fun h => ?_, fun h => ?_⟩; (focus (exfalso; (first | (with_reducible (cases h; done)) | (revert h; simp; done) | (revert h; simp; omega) | (revert h; simp [*]; done)))); clear h))
      refine ⟨[], _, refSum26_ok _ s (validB_iff.1 hv), ?_⟩
      rintro _ _ ⟨rfl, rfl⟩
      repeat (first | (refine ⟨fun h => ?_, fun h => ?_⟩; rotate_left 1; (focus (exfalso; (first | (with_reducible (cases h; done)) | (revert h; simp; done) | (revert h; simp; omega) | (revert h; simp [*]; done)))); clear h) | (refine ⟨fun h => ?_, fun h => ?_⟩; (focus (exfalso; (first | (with_reducible (cases h; done)) | (revert h; simp; done) | (revert h; simp; omega) | (revert h; simp [*]; done)))); clear h))
      (intro z hz; obtain rfl : z = ((k + 1 : Nat) : Int) := (by first | (rw [IntKind.wrap_i64] at hz; omega) | (rw [IntKind.wrap_u64] at hz; omega) | omega); clear hz)
      exact ⟨rfl, k + 1, hil, by show l.length - (k + 1) < l.length - k; omega, ⟨rfl, trivial⟩, Ent.refl _, rfl⟩
    · have hv' : validB s = false := by cases h : validB s <;> first | rfl | exact absurd h hv
      refine ⟨[], _, SumN _ (hG.rh _) s hv, ?_⟩
      rintro _ _ ⟨rfl, rfl⟩
      refine ⟨by omega, by omega, a, hA, ?_⟩
      refine ⟨s.cells, fun j u hu => .inl (rdnS (vs := s.cells) (fun j u hu => hr j u hu) j u hu), rfl, ?_⟩
      refine ⟨[], _, ValV _ s (hok s hmem) hv', ?_⟩
      rintro _ _ ⟨rfl, rfl⟩
      repeat (first | (refine ⟨fun h => ?_, fun h => ?_⟩; rotate_left 1; (focus (exfalso; (first | (with_reducible (cases h; done)) | (revert h; simp; done) | (revert h; simp; omega) | (revert h; simp [*]; done)))); clear h) | (refine ⟨fun h => ?_, fun h => ?_⟩; (focus (exfalso; (first | (with_reducible (cases h; done)) | (revert h; simp; done) | (revert h; simp; omega) | (revert h; simp [*]; done)))); clear h))
      refine ⟨by omega, by omega, a, hA, ?_⟩
      repeat (first | (refine ⟨fun h => ?_, fun h => ?_⟩; rotate_left 1; (focus (exfalso; (first | (with_reducible (cases h; done)) | (revert h; simp; done) | (revert h; simp; omega) | (revert h; simp [*]; done)))); clear h) | (refine ⟨fun h => ?_, fun h => ?_⟩; (focus (exfalso; (first | (with_reducible (cases h; done)) | (revert h; simp; done) | (revert h; simp; omega) | (revert h; simp [*]; done)))); clear h))
      refine ⟨s.cells, fun j u hu => .inl (rdnS (vs := s.cells) (fun j u hu => hr j u hu) j u hu), rfl, ?_⟩
      repeat (first | (refine ⟨fun h => ?_, fun h => ?_⟩; rotate_left 1; (focus (exfalso; (first | (with_reducible (cases h; done)) | (revert h; simp; done) | (revert h; simp; omega) | (revert h; simp [*]; done)))); clear h) | (refine ⟨fun h => ?_, fun h => ?_⟩; (focus (exfalso; (first | (with_reducible (cases h; done)) | (revert h; simp; done) | (revert h; simp; omega) | (revert h; simp [*]; done)))); clear h))
      refine ⟨[], _, ValV _ s (hok s hmem) hv', ?_⟩
      rintro _ _ ⟨rfl, rfl⟩
      repeat (first | (refine ⟨fun h => ?_, fun h => ?_⟩; rotate_left 1; (focus (exfalso; (first | (with_reducible (cases h; done)) | (revert h; simp; done) | (revert h; simp; omega) | (revert h; simp [*]; done)))); clear h) | (refine ⟨fun h => ?_, fun h => ?_⟩; (focus (exfalso; (first | (with_reducible (cases h; done)) | (revert h; simp; done) | (revert h; simp; omega) | (revert h; simp [*]; done)))); clear h))
      (intro z hz; obtain rfl : z = ((k + 1 : Nat) : Int) := (by first | (rw [IntKind.wrap_i64] at hz; omega) | (rw [IntKind.wrap_u64] at hz; omega) | omega); clear hz)
      exact ⟨rfl, k + 1, hil, by show l.length - (k + 1) < l.length - k; omega, ⟨rfl, trivial⟩, Ent.refl _, rfl⟩
  · replace hb := of_decide_eq_false hb
    refine ⟨[], _, Verify_ok _ (hG.rh _) (hs.rh _) (by omega), ?_⟩
    rintro _ _ ⟨rfl, rfl⟩
    refine ⟨[], _, refVerify_ok _ (hs.rh _) (by omega) hcap hok, ?_⟩
    rintro _ _ ⟨rfl, rfl⟩
    refine ⟨_, Ent.nil _, ?_⟩
    show Value.bool (decide (verP l = verP l)) = _
    rw [decide_eq_true rfl]

end Go.Proofs.YtbgfnofjnbpdgaaDoor
