/-
  Contract: same.
-/
import Derived.Test.YtbgfnofjnbpdgaaDoorSac
namespace Go.Proofs.YtbgfnofjnbpdgaaDoor
open Go Go.RowKit
set_option linter.unusedVariables false

/-! ### same -/
theorem snaps_nil : snaps [] = [] := rfl
theorem Of_okC (R : Rd) {g r : Nat} {st : List WR} {c : Nat} {C : Lg} (hL : LogR R g r st) (hch : ∀ w, chainOf st w = C w) (hC : GoodC C) (hn : countC C ≤ 100000) (w : Int) :
    Fn Tryd.prog 15 [.pointer (some ⟨g, 0, .none⟩), .int .i64 w] [logM r st c] R (fun v h => ∃ h1, OwnSn v ((C w).map Rec.shown) h1 ∧ h = logM r st c :: h1) := by
  have hlc := len_le_count hC.out w
  have := Of_ok R (c := c) hL w (by rw [hch]; omega)
  rw [hch] at this
  refine Fn.ent this ?_
  rintro _ _ ⟨A, cap, hg, rfl, rfl⟩
  exact ⟨_, Ent.refl _, [_], OwnSn.of (List.length_map _).symm hg, rfl⟩

set_option maxRecDepth 100000 in
set_option maxHeartbeats 8000000 in
theorem same26_ok (R : Rd) {g r : Nat} {st : List WR} {c : Nat} {C : Lg} (hL : LogR R g r st) (hch : ∀ w, chainOf st w = C w) (hC : GoodC C) (hn : countC C ≤ 100000) {A : Option Addr} {cap : Nat} (hs : MkR R A cap (flatC C)) :
    Fn Tryd.prog 28 [.pointer (some ⟨g, 0, .none⟩), .slice A (flatC C).length cap] [logM r st c] R (fun v h => v = .bool true ∧ h = [logM r st c]) := by
  have hl := flatC_length C
  have hrl := retC_length C
  have hsl := rSel_ret C
  refine fn_of_vc mixed tabOk Tryd.func28 rfl (by kernel_rfl) (Nat.le_of_ble_eq_true rfl) ?_
  refine ⟨[0], _, Retained_ok _ (hL.rh _) hch hC hn, ?_⟩
  rintro _ _ ⟨_, ⟨A1, cap1, hg1, rfl, rfl⟩, rfl⟩
  refine ⟨[], _, refSelect_ok _ (hs.rh _) (by omega) (-1) true, ?_⟩
  rw [hsl]
  rintro _ _ ⟨A2, cap2, hg2, rfl, rfl⟩
  refine ⟨[], _, SameAll_ok _ (SlR.own 1 rfl (snaps_length _) hg1) (SlR.own 2 rfl (snaps_length _) hg2) (by omega) (by omega), ?_⟩
  rintro _ _ ⟨rfl, rfl⟩
  rw [decide_eq_true rfl]
  repeat (first | (refine ⟨fun h => ?_, fun h => ?_⟩; rotate_left 1; (focus (exfalso; (first | (with_reducible (cases h; done)) | (revert h; simp; done) | (revert h; simp; omega) | (revert h; simp [*]; done)))); clear h) | (refine ⟨fun h => ?_, fun h => ?_⟩; (focus (exfalso; (first | (with_reducible (cases h; done)) | (revert h; simp; done) | (revert h; simp; omega) | (revert h; simp [*]; done)))); clear h))
  refine ⟨[none, none, none, none, some 4, some 5, some 6, none, none, none, none, none, none, some 13, some 14, some 15, some 16, some 17, some 18, some 19, some 20, some 21, some 22, some 23, some 24, some 25, some 26, some 27], [5], Nat, fun k => k ≤ 14, fun k => [.int .i64 ((k : Int) - 1)], fun k => [logM r st c], fun k => 14 - k, 0, by omega, ⟨rfl, trivial⟩, Ent.pick [0] rfl, ?_⟩
  intro k hk js
  refine ⟨fun hb0 => ?_, fun hb0 => ?_⟩
  · have hk0 : (k : Int) - 1 ≤ 12 := of_decide_eq_true hb0
    have hse : ∀ w : Int, 0 ≤ w → rSel (flatC C) w false = (C w).map Rec.shown := fun w hw => rSel_of hC hw
    have hlk := len_le_count hC.out ((k : Int) - 1)
    have hll := rSel_length (flatC C) ((k : Int) - 1) false
    by_cases h0 : k = 0
    · subst h0
      have hz : C (((0 : Nat) : Int) - 1) = [] := hC.out _ (by omega)
      refine ⟨[], _, refSelect_ok _ (hs.rh _) (by omega) _ false, ?_⟩
      rintro _ _ ⟨A3, cap3, hg3, rfl, rfl⟩
      repeat (first | (refine ⟨fun h => ?_, fun h => ?_⟩; rotate_left 1; (focus (exfalso; (first | (with_reducible (cases h; done)) | (revert h; simp; done) | (revert h; simp; omega) | (revert h; simp [*]; done)))); clear h) | (refine ⟨fun h => ?_, fun h => ?_⟩; (focus (exfalso; (first | (with_reducible (cases h; done)) | (revert h; simp; done) | (revert h; simp; omega) | (revert h; simp [*]; done)))); clear h))
      refine ⟨[0], _, Of_okC _ (hL.rh _) hch hC hn _, ?_⟩
      rw [hz]
      rintro _ _ ⟨_, ⟨A4, cap4, hg4, rfl, rfl⟩, rfl⟩
      refine ⟨[], _, SameAll_ok (a := []) (b := []) _ (SlR.own 2 rfl rfl hg4) ⟨rfl, .none, 0, rfl, fun j u hu => by simp [snaps] at hu⟩ (by simp) (by simp), ?_⟩
      rintro _ _ ⟨rfl, rfl⟩
      rw [decide_eq_true rfl]
      repeat (first | (refine ⟨fun h => ?_, fun h => ?_⟩; rotate_left 1; (focus (exfalso; (first | (with_reducible (cases h; done)) | (revert h; simp; done) | (revert h; simp; omega) | (revert h; simp [*]; done)))); clear h) | (refine ⟨fun h => ?_, fun h => ?_⟩; (focus (exfalso; (first | (with_reducible (cases h; done)) | (revert h; simp; done) | (revert h; simp; omega) | (revert h; simp [*]; done)))); clear h))
      (intro z hz; obtain rfl := wr_i64 hz (by omega) (by omega); clear hz)
      exact ⟨rfl, 1, by omega, by show 14 - 1 < 14 - 0; omega, ⟨rfl, trivial⟩, Ent.pick [1] rfl, rfl⟩
    · have hw0 : ¬ ((k : Int) - 1 < 0) := by omega
      refine ⟨[], _, refSelect_ok _ (hs.rh _) (by omega) _ false, ?_⟩
      rw [hse _ (by omega)]
      rintro _ _ ⟨A3, cap3, hg3, rfl, rfl⟩
      repeat (first | (refine ⟨fun h => ?_, fun h => ?_⟩; rotate_left 1; (focus (exfalso; (first | (with_reducible (cases h; done)) | (revert h; simp; done) | (revert h; simp; omega) | (revert h; simp [*]; done)))); clear h) | (refine ⟨fun h => ?_, fun h => ?_⟩; (focus (exfalso; (first | (with_reducible (cases h; done)) | (revert h; simp; done) | (revert h; simp; omega) | (revert h; simp [*]; done)))); clear h))
      refine ⟨[0], _, Of_okC _ (hL.rh _) hch hC hn _, ?_⟩
      rintro _ _ ⟨_, ⟨A4, cap4, hg4, rfl, rfl⟩, rfl⟩
      refine ⟨[], _, SameAll_ok _ (SlR.own 2 rfl (snaps_length _) hg4) (SlR.own 0 rfl (snaps_length _) hg3) (by rw [List.length_map]; omega) (by rw [List.length_map]; omega), ?_⟩
      rintro _ _ ⟨rfl, rfl⟩
      rw [decide_eq_true rfl]
      repeat (first | (refine ⟨fun h => ?_, fun h => ?_⟩; rotate_left 1; (focus (exfalso; (first | (with_reducible (cases h; done)) | (revert h; simp; done) | (revert h; simp; omega) | (revert h; simp [*]; done)))); clear h) | (refine ⟨fun h => ?_, fun h => ?_⟩; (focus (exfalso; (first | (with_reducible (cases h; done)) | (revert h; simp; done) | (revert h; simp; omega) | (revert h; simp [*]; done)))); clear h))
      intro z hz; obtain rfl : z = ((k + 1 : Nat) : Int) - 1 := by (have h2 : z = IntKind.wrap .i64 ((k : Int) - 1 + 1) := hz; rw [IntKind.wrap_i64] at h2; omega)
      clear hz
      exact ⟨rfl, k + 1, by omega, by show 14 - (k + 1) < 14 - k; omega, ⟨rfl, trivial⟩, Ent.pick [1] rfl, rfl⟩
  · exact ⟨_, Ent.refl _, rfl, rfl⟩


end Go.Proofs.YtbgfnofjnbpdgaaDoor
