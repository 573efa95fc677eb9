/-
  The law SnapshotMerges.
-/
import Derived.Test.YtbgfnofjnbpdgaaDoorSal
import Derived.Test.YtbgfnofjnbpdgaaDoorSah
namespace Go.Proofs.YtbgfnofjnbpdgaaDoor
open Go Go.RowKit
set_option linter.unusedVariables false

theorem sops_length (l : List SOp) : (sops l).length = l.length * 15 := flat_len fun _ _ => rfl
theorem sops_one (l : List SOp) : allOne (sops l) = true := by
  refine allOne_of fun u hu => ?_
  obtain ⟨m, _, hm⟩ := List.mem_flatMap.1 hu
  simp only [SOp.cells, List.mem_cons, List.not_mem_nil, or_false] at hm
  rcases hm with rfl | rfl | rfl | rfl | rfl | rfl | rfl | rfl | rfl | rfl | rfl | rfl | rfl | rfl | rfl <;> rfl
theorem sops_app (a b : List SOp) : sops (a ++ b) = sops a ++ sops b := by simp [sops]
theorem built_app (R : Rd) (hG : ShaG R) {A : Option Addr} {cap n : Nat} {a b : List SOp} (hs : SlR R 15 (.slice A n cap) n (sops a ++ sops b)) (hl : n = a.length + b.length) (hn : n ≤ 4000) (ha : ∀ x ∈ a, x.s.Ok) (hb : ∀ x ∈ b, x.s.Ok) :
    Fn Tryd.prog 14 [.slice A n cap] [] R (fun v h => Built (runC C00 (a ++ b)) v h) := by
  have e : n = (a ++ b).length := by rw [List.length_append]; exact hl
  rw [← sops_app] at hs
  subst e
  exact built_ok R hG hs hn fun x hx => (List.mem_append.1 hx).elim (ha x) (hb x)
theorem good_mergeR {C D : Lg} (hC : GoodC C) (hD : GoodC D) : GoodC (mergeR C D).1 ∧ countC (mergeR C D).1 ≤ countC C + countC D := by
  have hcm := count_le_merge C D
  unfold mergeR
  by_cases h : agreesB C D = true
  · rw [if_pos h]
    by_cases h2 : 4096 < countC (mergeC C D)
    · rw [if_pos h2]; exact ⟨hC, Nat.le_add_right _ _⟩
    · rw [if_neg h2]; exact ⟨hC.merge hD ((agreesB_iff hC).1 h), hcm⟩
  · rw [if_neg h]; exact ⟨hC, Nat.le_add_right _ _⟩

set_option maxRecDepth 100000 in
set_option maxHeartbeats 8000000 in
theorem SnapshotMerges_law (R : Rd) (hG : ShaG R) (v0 v1 v2 : Value) (s0 : SeenV R (.sl 15 OpShp) v0) (s1 : SeenV R (.sl 15 OpShp) v1) (s2 : SeenV R (.sl 15 OpShp) v2) :
    Fn Tryd.prog 9 [v0, v1, v2] [] R (fun v _ => v = .bool true) := by
  have hML := maxLen_eq
  obtain ⟨a, Aa, ca, hoka, rfl, hsa⟩ := s0.sops
  obtain ⟨x, Ax, cx, hokx, rfl, hsx⟩ := s1.sops
  obtain ⟨y, Ay, cy, hoky, rfl, hsy⟩ := s2.sops
  refine fn_of_vc mixed tabOk Tryd.func9 rfl (by kernel_rfl) (Nat.le_of_ble_eq_true rfl) ?_
  refine ⟨[], _, awake26_ok _ (hG.rh _), ?_⟩
  rintro _ _ ⟨rfl, rfl⟩
  repeat (first | (refine ⟨fun h => ?_, fun h => ?_⟩; rotate_left 1; (focus (exfalso; (first | (with_reducible (cases h; done)) | (revert h; simp; done) | (revert h; simp; omega) | (revert h; simp [*]; done)))); clear h) | (refine ⟨fun h => ?_, fun h => ?_⟩; (focus (exfalso; (first | (with_reducible (cases h; done)) | (revert h; simp; done) | (revert h; simp; omega) | (revert h; simp [*]; done)))); clear h))
  by_cases h1 : (30 : Int) < a.length
  · repeat (first | (refine ⟨fun h => ?_, fun h => ?_⟩; rotate_left 1; (focus (exfalso; (first | (with_reducible (cases h; done)) | (revert h; simp; done) | (revert h; simp; omega) | (revert h; simp [*]; done)))); clear h) | (refine ⟨fun h => ?_, fun h => ?_⟩; (focus (exfalso; (first | (with_reducible (cases h; done)) | (revert h; simp; done) | (revert h; simp; omega) | (revert h; simp [*]; done)))); clear h))
    exact ⟨_, Ent.nil _, rfl⟩
  repeat (first | (refine ⟨fun h => ?_, fun h => ?_⟩; rotate_left 1; (focus (exfalso; (first | (with_reducible (cases h; done)) | (revert h; simp; done) | (revert h; simp; omega) | (revert h; simp [*]; done)))); clear h) | (refine ⟨fun h => ?_, fun h => ?_⟩; (focus (exfalso; (first | (with_reducible (cases h; done)) | (revert h; simp; done) | (revert h; simp; omega) | (revert h; simp [*]; done)))); clear h))
  by_cases h2 : (30 : Int) < x.length
  · repeat (first | (refine ⟨fun h => ?_, fun h => ?_⟩; rotate_left 1; (focus (exfalso; (first | (with_reducible (cases h; done)) | (revert h; simp; done) | (revert h; simp; omega) | (revert h; simp [*]; done)))); clear h) | (refine ⟨fun h => ?_, fun h => ?_⟩; (focus (exfalso; (first | (with_reducible (cases h; done)) | (revert h; simp; done) | (revert h; simp; omega) | (revert h; simp [*]; done)))); clear h))
    exact ⟨_, Ent.nil _, rfl⟩
  repeat (first | (refine ⟨fun h => ?_, fun h => ?_⟩; rotate_left 1; (focus (exfalso; (first | (with_reducible (cases h; done)) | (revert h; simp; done) | (revert h; simp; omega) | (revert h; simp [*]; done)))); clear h) | (refine ⟨fun h => ?_, fun h => ?_⟩; (focus (exfalso; (first | (with_reducible (cases h; done)) | (revert h; simp; done) | (revert h; simp; omega) | (revert h; simp [*]; done)))); clear h))
  by_cases h3 : (30 : Int) < y.length
  · repeat (first | (refine ⟨fun h => ?_, fun h => ?_⟩; rotate_left 1; (focus (exfalso; (first | (with_reducible (cases h; done)) | (revert h; simp; done) | (revert h; simp; omega) | (revert h; simp [*]; done)))); clear h) | (refine ⟨fun h => ?_, fun h => ?_⟩; (focus (exfalso; (first | (with_reducible (cases h; done)) | (revert h; simp; done) | (revert h; simp; omega) | (revert h; simp [*]; done)))); clear h))
    exact ⟨_, Ent.nil _, rfl⟩
  repeat (first | (refine ⟨fun h => ?_, fun h => ?_⟩; rotate_left 1; (focus (exfalso; (first | (with_reducible (cases h; done)) | (revert h; simp; done) | (revert h; simp; omega) | (revert h; simp [*]; done)))); clear h) | (refine ⟨fun h => ?_, fun h => ?_⟩; (focus (exfalso; (first | (with_reducible (cases h; done)) | (revert h; simp; done) | (revert h; simp; omega) | (revert h; simp [*]; done)))); clear h))
  obtain ⟨hC, hnC⟩ := built_good (a ++ x)
  obtain ⟨hD, hnD⟩ := built_good (a ++ y)
  rw [List.length_append] at hnC hnD
  refine ⟨rfl, fun g0 => ?_⟩
  refine ⟨sops a, sops_length a, (hsa.mono fun _ _ => .inl).src, sops_one a, by show (_ + _) * 136 ≤ _; omega, by omega, .inr ⟨0, rfl, rfl, rfl, rfl, rfl, rfl, fun A5 cap5 hg5 => ?_⟩⟩
  refine ⟨sops x, sops_length x, (hsx.mono fun _ _ => .inl).src, sops_one x, by show (_ + _) * 136 ≤ _; omega, by omega, .inr ⟨0, rfl, rfl, rfl, rfl, rfl, rfl, fun A6 cap6 hg6 => ?_⟩⟩
  refine ⟨[], _, built_app _ (hG.rh _) (a := a) (b := x) (SlR.own 0 rfl (by rw [List.length_append, sops_length, sops_length]; omega) hg6) (by omega) (by omega) hoka hokx, ?_⟩
  generalize runC C00 (a ++ x) = C at *
  rintro _ _ ⟨g1, r1, st1, c1, A1, cap1, rfl, hlok1, hch1, hg1, rfl⟩
  refine ⟨rfl, fun g9 => ?_⟩
  refine ⟨sops a, sops_length a, (hsa.mono fun _ _ => .inl).src, sops_one a, by show (_ + _) * 136 ≤ _; omega, by omega, .inr ⟨5, rfl, rfl, rfl, rfl, rfl, rfl, fun A5 cap5 hg5 => ?_⟩⟩
  refine ⟨sops y, sops_length y, (hsy.mono fun _ _ => .inl).src, sops_one y, by show (_ + _) * 136 ≤ _; omega, by omega, .inr ⟨5, rfl, rfl, rfl, rfl, rfl, rfl, fun A6 cap6 hg6 => ?_⟩⟩
  refine ⟨[], _, built_app _ (hG.rh _) (a := a) (b := y) (SlR.own 5 rfl (by rw [List.length_append, sops_length, sops_length]; omega) hg6) (by omega) (by omega) hoka hoky, ?_⟩
  generalize runC C00 (a ++ y) = D at *
  rintro _ _ ⟨g2, r2, st2, c2, A2, cap2, rfl, hlok2, hch2, hg2, rfl⟩
  obtain ⟨hgm, hcm⟩ := good_mergeR hC hD
  refine ⟨[1, 1, 1, 3, 3, 3], _, Merge_ok _ ⟨r1, st1, c1, hlok1, hch1, rfl⟩ ⟨r2, st2, c2, hlok2, hch2, rfl⟩ hC hD (by omega) (by omega), ?_⟩
  clear hlok1 hch1 hlok2 hch2
  rintro _ _ ⟨rfl, _, _, rfl, ⟨r1, st1, c1, hlok1, hch1, rfl⟩, ⟨r2, st2, c2, hlok2, hch2, rfl⟩⟩
  refine ⟨[], _, refMerge_core _ (SlR.own 1 rfl (mks_length _) hg1) (SlR.own 3 rfl (mks_length _) hg2) hC hD (by omega), ?_⟩
  rintro _ _ ⟨u, rfl, ⟨rfl, rfl, hll⟩ | ⟨A7, cap7, hg7, rfl, rfl⟩⟩
  · rw [← hll]
    repeat (first | (refine ⟨fun h => ?_, fun h => ?_⟩; rotate_left 1; (focus (exfalso; (first | (with_reducible (cases h; done)) | (revert h; simp; done) | (revert h; simp; omega) | (revert h; simp [*]; done)))); clear h) | (refine ⟨fun h => ?_, fun h => ?_⟩; (focus (exfalso; (first | (with_reducible (cases h; done)) | (revert h; simp; done) | (revert h; simp; omega) | (revert h; simp [*]; done)))); clear h))
    refine ⟨[5], _, same26_ok _ (logR_own 4 5 hlok1 rfl rfl) hch1 hgm (by omega) (by rw [hll]; exact SlR.own 1 rfl (mks_length _) hg1), ?_⟩
    rintro _ _ ⟨rfl, rfl⟩
    repeat (first | (refine ⟨fun h => ?_, fun h => ?_⟩; rotate_left 1; (focus (exfalso; (first | (with_reducible (cases h; done)) | (revert h; simp; done) | (revert h; simp; omega) | (revert h; simp [*]; done)))); clear h) | (refine ⟨fun h => ?_, fun h => ?_⟩; (focus (exfalso; (first | (with_reducible (cases h; done)) | (revert h; simp; done) | (revert h; simp; omega) | (revert h; simp [*]; done)))); clear h))
    refine ⟨[7], _, same26_ok _ (logR_own 6 7 hlok2 rfl rfl) hch2 hD (by omega) (SlR.own 3 rfl (mks_length _) hg2), ?_⟩
    rintro _ _ ⟨rfl, rfl⟩
    repeat (first | (refine ⟨fun h => ?_, fun h => ?_⟩; rotate_left 1; (focus (exfalso; (first | (with_reducible (cases h; done)) | (revert h; simp; done) | (revert h; simp; omega) | (revert h; simp [*]; done)))); clear h) | (refine ⟨fun h => ?_, fun h => ?_⟩; (focus (exfalso; (first | (with_reducible (cases h; done)) | (revert h; simp; done) | (revert h; simp; omega) | (revert h; simp [*]; done)))); clear h))
    exact ⟨_, Ent.nil _, rfl⟩
  · repeat (first | (refine ⟨fun h => ?_, fun h => ?_⟩; rotate_left 1; (focus (exfalso; (first | (with_reducible (cases h; done)) | (revert h; simp; done) | (revert h; simp; omega) | (revert h; simp [*]; done)))); clear h) | (refine ⟨fun h => ?_, fun h => ?_⟩; (focus (exfalso; (first | (with_reducible (cases h; done)) | (revert h; simp; done) | (revert h; simp; omega) | (revert h; simp [*]; done)))); clear h))
    refine ⟨[5], _, same26_ok _ (logR_own 4 5 hlok1 rfl rfl) hch1 hgm (by omega) (SlR.own 9 rfl (mks_length _) hg7), ?_⟩
    rintro _ _ ⟨rfl, rfl⟩
    repeat (first | (refine ⟨fun h => ?_, fun h => ?_⟩; rotate_left 1; (focus (exfalso; (first | (with_reducible (cases h; done)) | (revert h; simp; done) | (revert h; simp; omega) | (revert h; simp [*]; done)))); clear h) | (refine ⟨fun h => ?_, fun h => ?_⟩; (focus (exfalso; (first | (with_reducible (cases h; done)) | (revert h; simp; done) | (revert h; simp; omega) | (revert h; simp [*]; done)))); clear h))
    refine ⟨[7], _, same26_ok _ (logR_own 6 7 hlok2 rfl rfl) hch2 hD (by omega) (SlR.own 3 rfl (mks_length _) hg2), ?_⟩
    rintro _ _ ⟨rfl, rfl⟩
    repeat (first | (refine ⟨fun h => ?_, fun h => ?_⟩; rotate_left 1; (focus (exfalso; (first | (with_reducible (cases h; done)) | (revert h; simp; done) | (revert h; simp; omega) | (revert h; simp [*]; done)))); clear h) | (refine ⟨fun h => ?_, fun h => ?_⟩; (focus (exfalso; (first | (with_reducible (cases h; done)) | (revert h; simp; done) | (revert h; simp; omega) | (revert h; simp [*]; done)))); clear h))
    exact ⟨_, Ent.nil _, rfl⟩

end Go.Proofs.YtbgfnofjnbpdgaaDoor
