/-
  Transfer: contracts of the reference's encodings, of its parts, and of the law's helpers.
-/
import Derived.Test.YtnifppnpplgghaaGreatDoorTrh
namespace Go.Proofs.YtnifppnpplgghaaGreatDoor
open Go Go.RowKit
set_option linter.unusedVariables false

theorem rEncH_ok (R : Rd) (x : Hd) (B : Value) (w : WfH x) (hs : Ss R B x.sums) : Fn Tryz.prog 30 [.agg ⟨hdC x B⟩] [] R (OwnBl · (encH x) ·) := by
  refine Fn.post (rEncH_ok0 R x B w hs) ?_
  rintro _ _ w ⟨A', cap', rfl, rfl, hg⟩ o
  exact ⟨A', cap', rfl, rfl, hg, (row_cap o 0 rfl).1⟩
set_option maxRecDepth 100000 in
set_option maxHeartbeats 8000000 in
theorem rEncP_ok0 (R : Rd) (x : Pt) (D B : Value) (w : WfP x) (hd : Bs R D x.dt) (hs : Ss R B x.path) : Fn Tryz.prog 32 [.agg ⟨ptC x D B⟩] [] R
    (fun v h => ∃ A cap, v = .slice A (encP x).length cap ∧ h = [.row A (encP x).length cap 5 1 (BV (encP x)) (0, 0)] ∧ grow (encP x).length A) := by
  have hML := maxLen_eq
  have hle := encP_le w
  have w' := w
  obtain ⟨a1, a2, a3, a4, a5, a6, a7, a8, a9, a10⟩ := w'
  obtain ⟨D1, cd1, rfl, hcd1, hdr⟩ := hd
  refine fn_of_vc mixed tabOk Tryz.func32 rfl (by kernel_rfl) (Nat.le_of_ble_eq_true rfl) ?_
  intro gb
  refine ⟨[0], .cut (.q 0 (.q 1 (.q 2 (.q 3 (.q 4 (.q 5 (.q 6 (.q 8 (.q 9 (.q 11 (.q 12 (.q 13 (.q 14 (.q 16 (.q 17 (.one 7 (.one 10 (.two 15 (.one 18 (.one 19 (.one 20 (.q 21 (.q 22 (.q 23 (.q 24 (.q 25 .nil)))))))) 18 (.one 15 (.one 19 (.one 20 (.q 21 (.q 22 (.q 23 (.q 24 (.q 25 .nil)))))))))))))))))))))))))), by kernel_rfl, [none, none, none, some 3, some 4, some 5, some 6, some 7, some 8, some 9, some 10, some 11, some 12, some 13, some 14, some 15, some 16, some 17, some 18, some 19, some 20, some 21, some 22, some 23, some 24, some 25, some 26, some 27, some 28], ?_⟩
  refine ⟨[3], Option Addr × Nat, fun ⟨A, cap⟩ => grow (encP x).length A, fun ⟨A, cap⟩ => [.slice A (encP x).length cap], fun ⟨A, cap⟩ => [.row A (encP x).length cap 5 1 (BV (encP x)) (0, 0)], ?_, ?_⟩
  · refine ⟨_, ld 0 rfl rfl, ?_⟩
    refine ⟨_, ld 0 rfl rfl, ?_⟩
    refine ⟨_, ld 0 rfl rfl, ?_⟩
    refine ⟨_, ld 0 rfl rfl, ?_⟩
    refine ⟨x.dt, rfl, fun j b hb => (hdr.rh _).at_ hb, ?_⟩
    refine ⟨_, ld 0 rfl rfl, ?_⟩
    refine ⟨[], _, rnumber_ok _ x.ix a2 (by omega), ?_⟩
    rintro _ _ ⟨rfl, rfl⟩
    refine ⟨[], _, rnumber_ok _ x.off (by omega) (by omega), ?_⟩
    rintro _ _ ⟨rfl, rfl⟩
    refine ⟨?_, ?_⟩
    · refine ⟨rfl, fun g1 => ?_⟩
      refine ⟨[], _, rsums_ok _ x.path B (by omega) ((hs.rh _).rh _), ?_⟩
      rintro _ _ ⟨As, cs, rfl, rfl, hgs⟩
      refine ⟨iC (itemsL x.path), iC_length _, slr_src (SlR.own 1 rfl (iC_length _) hgs), iC_one _, by rw [itemsL_length]; show (_ + _) * 56 ≤ _; omega, by rw [itemsL_length]; omega, .inr ⟨0, rfl, rfl, rfl, rfl, rfl, rfl, fun A5 cap5 hg5 => ?_⟩⟩
      refine ⟨[], _, refEncode_w _ _ (itemsP x) (fun y hy => (oks_P w y hy).1) (by unfold itemsP; rw [List.length_append, itemsL_length]; show _ + _ ≤ _; simp only [List.length_cons, List.length_nil]; omega) (fun y hy => (oks_P w y hy).2) ((items_own 0 rfl (by unfold itemsP; rw [List.length_append]; rfl) hg5)), ?_⟩
      rw [encS_P w]
      rintro _ _ ⟨_, rfl, A6, k6, cap6, xs6, rfl, rfl, hk6, hx6, hg6⟩
      have e1 : doneB (encP x) 0 = encP x := by rw [doneB, if_pos ⟨rfl, by omega⟩]
      rw [show doneB ((encP x, (0 : Int))).1 ((encP x, (0 : Int))).2 = encP x from e1] at hk6 hx6
      subst hk6 hx6
      exact ⟨rfl, (A6, cap6), hg6, ⟨rfl, trivial⟩, Ent.pick [2] rfl, rfl⟩
    · refine ⟨[], _, rsums_ok _ x.path B (by omega) ((hs.rh _).rh _), ?_⟩
      rintro _ _ ⟨As, cs, rfl, rfl, hgs⟩
      refine ⟨rfl, fun g1 => ?_⟩
      refine ⟨iC (itemsL x.path), iC_length _, slr_src (SlR.own 0 rfl (iC_length _) hgs), iC_one _, by rw [itemsL_length]; show (_ + _) * 56 ≤ _; omega, by rw [itemsL_length]; omega, .inr ⟨1, rfl, rfl, rfl, rfl, rfl, rfl, fun A5 cap5 hg5 => ?_⟩⟩
      refine ⟨[], _, refEncode_w _ _ (itemsP x) (fun y hy => (oks_P w y hy).1) (by unfold itemsP; rw [List.length_append, itemsL_length]; show _ + _ ≤ _; simp only [List.length_cons, List.length_nil]; omega) (fun y hy => (oks_P w y hy).2) ((items_own 1 rfl (by unfold itemsP; rw [List.length_append]; rfl) hg5)), ?_⟩
      rw [encS_P w]
      rintro _ _ ⟨_, rfl, A6, k6, cap6, xs6, rfl, rfl, hk6, hx6, hg6⟩
      have e1 : doneB (encP x) 0 = encP x := by rw [doneB, if_pos ⟨rfl, by omega⟩]
      rw [show doneB ((encP x, (0 : Int))).1 ((encP x, (0 : Int))).2 = encP x from e1] at hk6 hx6
      subst hk6 hx6
      exact ⟨rfl, (A6, cap6), hg6, ⟨rfl, trivial⟩, Ent.pick [2] rfl, rfl⟩
  rintro ⟨A, cap⟩ hg js
  exact ⟨_, Ent.pick [1] rfl, A, cap, rfl, rfl, hg⟩
theorem rEncP_ok (R : Rd) (x : Pt) (D B : Value) (w : WfP x) (hd : Bs R D x.dt) (hs : Ss R B x.path) : Fn Tryz.prog 32 [.agg ⟨ptC x D B⟩] [] R (OwnBl · (encP x) ·) := by
  refine Fn.post (rEncP_ok0 R x D B w hd hs) ?_
  rintro _ _ w ⟨A', cap', rfl, rfl, hg⟩ o
  exact ⟨A', cap', rfl, rfl, hg, (row_cap o 0 rfl).1⟩

/-! ### the law's helpers -/
set_option maxRecDepth 100000 in
set_option maxHeartbeats 2000000 in
theorem texts_ok (R : Rd) (a b : List Str) (u v : Value) (ha : a.length ≤ 1000000000000) (hu : Ss R u a) (hv : Ss R v b) : Fn Tryz.prog 63 [u, v] [] R (fun v h => v = .bool (decide (a = b)) ∧ h = []) := by
  obtain ⟨A, cap, rfl, hc, hs⟩ := hu
  obtain ⟨B, cb, rfl, hcb, ht⟩ := hv
  refine fn_of_vc mixed tabOk Tryz.func63 rfl (by kernel_rfl) (Nat.le_of_ble_eq_true rfl) ?_
  by_cases hl : (a.length : Int) = b.length
  case neg =>
    repeat (first | (refine ⟨fun h => ?_, fun h => ?_⟩; rotate_left 1; (focus (exfalso; (first | (with_reducible (cases h; done)) | (revert h; simp; done) | (revert h; simp; omega) | (revert h; simp [*]; done)))); clear h) | (refine ⟨fun h => ?_, fun h => ?_⟩; (focus (exfalso; (first | (with_reducible (cases h; done)) | (revert h; simp; done) | (revert h; simp; omega) | (revert h; simp [*]; done)))); clear h))
    exact ⟨_, Ent.refl _, no_D rfl (fun e => hl (by rw [e])), rfl⟩
  have hl2 : a.length = b.length := by omega
  repeat (first | (refine ⟨fun h => ?_, fun h => ?_⟩; rotate_left 1; (focus (exfalso; (first | (with_reducible (cases h; done)) | (revert h; simp; done) | (revert h; simp; omega) | (revert h; simp [*]; done)))); clear h) | (refine ⟨fun h => ?_, fun h => ?_⟩; (focus (exfalso; (first | (with_reducible (cases h; done)) | (revert h; simp; done) | (revert h; simp; omega) | (revert h; simp [*]; done)))); clear h))
  refine ⟨[none, none, none, none, some 4, some 5, none, none, none, none, none, some 11, some 12, some 13, some 14, some 15, some 16, some 17, some 18, some 19, some 20, some 21, some 22, some 23, some 24, some 25], [5], Nat, fun i => i ≤ a.length ∧ a.take i = b.take i, fun i => [.int .i64 i], fun _ => [], fun i => a.length - i, 0, ⟨Nat.zero_le _, rfl⟩, ⟨rfl, trivial⟩, Ent.refl _, ?_⟩
  rintro i ⟨hi, he⟩ js
  refine ⟨fun hb => ?_, fun hb => ?_⟩
  · replace hb := of_decide_eq_true hb
    have hlt : i < a.length := by omega
    obtain ⟨x, rfl, hx⟩ := hs.one hlt
    obtain ⟨y, rfl, hy⟩ := ht.one (show i < b.length by omega)
    have hga : a[i]? = some (a.getD i []) := by rw [List.getD_eq_getElem?_getD, List.getElem?_eq_getElem hlt]; rfl
    have hgb : b[i]? = some (b.getD i []) := by rw [List.getD_eq_getElem?_getD, List.getElem?_eq_getElem (show i < b.length by omega)]; rfl
    generalize a.getD i [] = s at *
    generalize b.getD i [] = t at *
    refine ⟨[], lexT 0 9, by kernel_rfl, ?_⟩
    refine ⟨by omega, by omega, x, rfl, _, .inl hx, ?_⟩
    refine ⟨by omega, by omega, y, rfl, _, .inl hy, ?_⟩
    by_cases c : s = t
    · subst c
      repeat (first | (refine ⟨fun h => ?_, fun h => ?_⟩; rotate_left 1; (focus (exfalso; (first | (with_reducible (cases h; done)) | (revert h; simp; done) | (revert h; simp; omega) | (revert h; simp [*]; done)))); clear h) | (refine ⟨fun h => ?_, fun h => ?_⟩; (focus (exfalso; (first | (with_reducible (cases h; done)) | (revert h; simp; done) | (revert h; simp; omega) | (revert h; simp [*]; done)))); clear h))
      (intro z hz; obtain rfl : z = ((i + 1 : Nat) : Int) := (by first | (rw [IntKind.wrap_i64] at hz; omega) | (rw [IntKind.wrap_u64] at hz; omega) | omega); clear hz)
      exact ⟨rfl, i + 1, ⟨hlt, by rw [List.take_add_one, List.take_add_one, hga, hgb, he]⟩, by show a.length - (i + 1) < a.length - i; omega, ⟨rfl, trivial⟩, Ent.refl _, rfl⟩
    · repeat (first | (refine ⟨fun h => ?_, fun h => ?_⟩; rotate_left 1; (focus (exfalso; (first | (with_reducible (cases h; done)) | (revert h; simp; done) | (revert h; simp; omega) | (revert h; simp [*]; done)))); clear h) | (refine ⟨fun h => ?_, fun h => ?_⟩; (focus (exfalso; (first | (with_reducible (cases h; done)) | (revert h; simp; done) | (revert h; simp; omega) | (revert h; simp [*]; done)))); clear h))
      exact ⟨_, Ent.refl _, no_D rfl (fun e => c (by rw [e, hgb] at hga; exact (Option.some.inj hga).symm)), rfl⟩
  · replace hb := of_decide_eq_false hb
    obtain rfl : i = a.length := by omega
    rw [List.take_length, hl2, List.take_length] at he
    exact ⟨_, Ent.refl _, yes_D rfl he, rfl⟩

end Go.Proofs.YtnifppnpplgghaaGreatDoor
