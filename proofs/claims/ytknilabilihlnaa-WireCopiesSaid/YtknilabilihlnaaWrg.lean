/-
  The law's examples: 'awake' returns true.
-/
import Derived.Test.YtknilabilihlnaaWrf
namespace Go.Proofs.Ytknilabilihlnaa
open Go Go.RowKit

theorem num300 : num 300 = [172, 2] := by rw [num_big (by omega), num_small (by omega)]; rfl

set_option maxRecDepth 100000 in
set_option maxHeartbeats 4000000 in
theorem awake_ok (R : Rd) : Fn Try.prog 13 [] [] R (fun v h => v = .bool true ∧ h = []) := by
  refine fn_of_vc mixed tabOk Try.func13 rfl (by kernel_rfl) (Nat.le_of_ble_eq_true rfl) ?_
  refine ⟨[], _, NewWriter_ok _, ?_⟩
  rintro v h' ⟨g, rfl, A, k, cap, xs, rfl, hk, hx, hg⟩
  refine ⟨[0, 0], _, WUint_ok _ g [] 0 _ 300 (by omega) (by simp) ⟨A, k, cap, xs, rfl, hk, hx, hg⟩, ?_⟩
  clear hk hx hg
  rintro v h' hw
  rw [if_pos rfl, num300] at hw
  obtain ⟨A, k, cap, xs, rfl, hk, hx, hg⟩ := hw
  refine ⟨[0, 0], _, WBool_ok _ g _ 0 _ true (by simp) ⟨A, k, cap, xs, rfl, hk, hx, hg⟩, ?_⟩
  clear hk hx hg
  rintro v h' hw
  rw [if_pos rfl] at hw
  obtain ⟨A, k, cap, xs, rfl, hk, hx, hg⟩ := hw
  refine ⟨[0, 0], _, WDone_ok _ g [172, 2, 1] 0 _ ⟨A, k, cap, xs, rfl, hk, hx, hg⟩, ?_⟩
  clear hk hx hg
  rintro v h' ⟨s, hw, hs, hv, rfl, ⟨A, k, cap, xs, rfl, hk, hx, hg⟩, ⟨A2, k2, cap2, xs2, rfl, rfl, hk2, hx2, hg2⟩⟩
  have e1 : doneE [172, 2, 1] 0 = 0 := by decide
  have e2 : doneB [172, 2, 1] 0 = [172, 2, 1] := by decide
  rw [e1] at hv
  rw [e2] at hk2 hx2
  subst hv
  repeat (focus (refine ⟨fun h => ?_, fun h => ?_⟩; first | (focus (exfalso; first | (simp at h; done) | exact absurd (of_decide_eq_true h) (by assumption) | exact absurd (by assumption) (of_decide_eq_false h))) | (rotate_left; focus (exfalso; first | (simp at h; done) | exact absurd (of_decide_eq_true h) (by assumption) | exact absurd (by assumption) (of_decide_eq_false h))) | (focus (exfalso; simp at h; omega)) | (rotate_left; focus (exfalso; simp at h; omega)); clear h))
  refine ⟨rfl, fun g5 => ?_⟩
  repeat (focus (refine ⟨fun h => ?_, fun h => ?_⟩; first | (focus (exfalso; first | (simp at h; done) | exact absurd (of_decide_eq_true h) (by assumption) | exact absurd (by assumption) (of_decide_eq_false h))) | (rotate_left; focus (exfalso; first | (simp at h; done) | exact absurd (of_decide_eq_true h) (by assumption) | exact absurd (by assumption) (of_decide_eq_false h))) | (focus (exfalso; simp at h; omega)) | (rotate_left; focus (exfalso; simp at h; omega)); clear h))
  refine ⟨[], _, same_ok _ _ _ [172, 2, 1] [172, 2, 1] (BsR.own 2 rfl hk2 hx2 hg2) (BsR.own 3 rfl rfl rfl (.inr ⟨_, rfl⟩)) (by simp), ?_⟩
  rintro v h' ⟨rfl, rfl⟩
  repeat (focus (refine ⟨fun h => ?_, fun h => ?_⟩; first | (focus (exfalso; first | (simp at h; done) | exact absurd (of_decide_eq_true h) (by assumption) | exact absurd (by assumption) (of_decide_eq_false h))) | (rotate_left; focus (exfalso; first | (simp at h; done) | exact absurd (of_decide_eq_true h) (by assumption) | exact absurd (by assumption) (of_decide_eq_false h))) | (focus (exfalso; simp at h; omega)) | (rotate_left; focus (exfalso; simp at h; omega)); clear h))
  refine ⟨[], _, NewReader_ok _ _ [172, 2, 1] (by simp) (BsR.own 2 rfl hk2 hx2 hg2), ?_⟩
  rintro v h' ⟨g6, rfl, A6, k6, cap6, xs6, rfl, hk6, hx6, hg6⟩
  refine ⟨[4, 4], _, RUint_ok _ g6 [172, 2, 1] 0 0 0 _ (by simp) (by simp) ⟨A6, k6, cap6, xs6, rfl, hk6, hx6, hg6⟩, ?_⟩
  clear hk6 hx6 hg6
  rintro v h' ⟨hv, hr⟩
  have e3 : nxt [172, 2, 1] 0 0 0 (uintD (List.drop 0 [172, 2, 1])).1 (uintD (List.drop 0 [172, 2, 1])).2.2 = (2, 0, 0) := by decide
  have e4 : (if (0 : Int) = 0 then (uintD (List.drop 0 [172, 2, 1])).2.1 else 0) = 300 := by decide
  rw [e3] at hr
  rw [e4] at hv
  subst hv
  obtain ⟨A6, k6, cap6, xs6, rfl, hk6, hx6, hg6⟩ := hr
  refine ⟨[4, 4], _, RBool_ok _ g6 [172, 2, 1] 2 0 0 _ (by simp) (by simp) ⟨A6, k6, cap6, xs6, rfl, hk6, hx6, hg6⟩, ?_⟩
  clear hk6 hx6 hg6
  rintro v h' ⟨hv, hr⟩
  have e5 : nxt [172, 2, 1] 2 0 0 (boolD (List.drop 2 [172, 2, 1])).1 (boolD (List.drop 2 [172, 2, 1])).2.2 = (3, 2, 0) := by decide
  have e6 : (if (0 : Int) = 0 then (boolD (List.drop 2 [172, 2, 1])).2.1 else false) = true := by decide
  rw [e5] at hr
  rw [e6] at hv
  subst hv
  obtain ⟨A6, k6, cap6, xs6, rfl, hk6, hx6, hg6⟩ := hr
  refine ⟨[4, 4], _, REnd_ok _ g6 [172, 2, 1] 3 2 0 _ ⟨A6, k6, cap6, xs6, rfl, hk6, hx6, hg6⟩, ?_⟩
  clear hk6 hx6 hg6
  rintro v h' ⟨hv, A6, k6, cap6, xs6, rfl, hk6, hx6, hg6⟩
  have e7 : endE [172, 2, 1] 3 0 = 0 := by decide
  rw [e7] at hv
  subst hv
  refine ⟨rfl, fun g7 => ?_⟩
  refine ⟨[], _, NewReader_ok _ _ [128, 0] (by simp) (BsR.own 6 rfl rfl rfl (.inr ⟨_, rfl⟩)), ?_⟩
  rintro v h' ⟨g8, rfl, A8, k8, cap8, xs8, rfl, hk8, hx8, hg8⟩
  refine ⟨[7, 7], _, RUint_ok _ g8 [128, 0] 0 0 0 _ (by simp) (by simp) ⟨A8, k8, cap8, xs8, rfl, hk8, hx8, hg8⟩, ?_⟩
  clear hk8 hx8 hg8
  rintro v h' ⟨hv, hr⟩
  have e8 : nxt [128, 0] 0 0 0 (uintD (List.drop 0 [128, 0])).1 (uintD (List.drop 0 [128, 0])).2.2 = (0, 0, 3) := by decide
  have e9 : (if (0 : Int) = 0 then (uintD (List.drop 0 [128, 0])).2.1 else 0) = 0 := by decide
  rw [e8] at hr
  rw [e9] at hv
  subst hv
  obtain ⟨A8, k8, cap8, xs8, rfl, hk8, hx8, hg8⟩ := hr
  refine ⟨[7, 7], _, REnd_ok _ g8 [128, 0] 0 0 3 _ ⟨A8, k8, cap8, xs8, rfl, hk8, hx8, hg8⟩, ?_⟩
  clear hk8 hx8 hg8
  rintro v h' ⟨hv, A8, k8, cap8, xs8, rfl, hk8, hx8, hg8⟩
  have e10 : endE [128, 0] 0 3 = 3 := by decide
  rw [e10] at hv
  subst hv
  repeat (focus (refine ⟨fun h => ?_, fun h => ?_⟩; first | (focus (exfalso; first | (simp at h; done) | exact absurd (of_decide_eq_true h) (by assumption) | exact absurd (by assumption) (of_decide_eq_false h))) | (rotate_left; focus (exfalso; first | (simp at h; done) | exact absurd (of_decide_eq_true h) (by assumption) | exact absurd (by assumption) (of_decide_eq_false h))) | (focus (exfalso; simp at h; omega)) | (rotate_left; focus (exfalso; simp at h; omega)); clear h))
  refine ⟨[], _, Zigzag_ok _ (-3) (by omega) (by omega), ?_⟩
  rintro v h' ⟨rfl, rfl⟩
  have e11 : zig (-3) = 5 := by decide
  rw [e11]
  repeat (focus (refine ⟨fun h => ?_, fun h => ?_⟩; first | (focus (exfalso; first | (simp at h; done) | exact absurd (of_decide_eq_true h) (by assumption) | exact absurd (by assumption) (of_decide_eq_false h))) | (rotate_left; focus (exfalso; first | (simp at h; done) | exact absurd (of_decide_eq_true h) (by assumption) | exact absurd (by assumption) (of_decide_eq_false h))) | (focus (exfalso; simp at h; omega)) | (rotate_left; focus (exfalso; simp at h; omega)); clear h))
  refine ⟨[], _, UintSize_ok _ 300 (by omega), ?_⟩
  rintro v h' ⟨rfl, rfl⟩
  have e12 : usize 300 = 2 := by rw [usize_big (by omega), usize_small (by omega)]
  rw [e12]
  repeat (focus (refine ⟨fun h => ?_, fun h => ?_⟩; first | (focus (exfalso; first | (simp at h; done) | exact absurd (of_decide_eq_true h) (by assumption) | exact absurd (by assumption) (of_decide_eq_false h))) | (rotate_left; focus (exfalso; first | (simp at h; done) | exact absurd (of_decide_eq_true h) (by assumption) | exact absurd (by assumption) (of_decide_eq_false h))) | (focus (exfalso; simp at h; omega)) | (rotate_left; focus (exfalso; simp at h; omega)); clear h))
  exact ⟨_, Ent.nil _, rfl, rfl⟩

end Go.Proofs.Ytknilabilihlnaa
