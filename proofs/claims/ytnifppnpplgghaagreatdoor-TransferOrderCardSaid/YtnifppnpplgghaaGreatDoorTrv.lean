/-
  Transfer: the law TransferResumes.
-/
import Derived.Test.YtnifppnpplgghaaGreatDoorTru
import Derived.Test.YtnifppnpplgghaaGreatDoorTrn
namespace Go.Proofs.YtnifppnpplgghaaGreatDoor
open Go Go.RowKit
set_option linter.unusedVariables false
set_option linter.unusedSimpArgs false

theorem recvE_cases (h : Hd) (sls : List Slot) (p : Pt) : recvE h sls p = 0 ∨ recvE h sls p = 1 ∨ recvE h sls p = 5 ∨ recvE h sls p = 9 := by
  by_cases hn : thereB h.sz p.off = true ∧ p.st = h.st ∧ p.ix = h.ix
  case neg => rw [recvE_no hn]; simp
  cases hs : sls.getD (p.off.toNat / 512) .none with
  | some x => rw [recvE_there hn hs]; simp
  | none =>
    rw [recvE_see hn hs]
    split
    · exact .inl rfl
    · exact .inr (.inr (.inr rfl))
theorem recAll_cases (h : Hd) : ∀ (ps : List Pt) (sls : List Slot), (recAll h sls ps).1 = 0 ∨ (recAll h sls ps).1 = 1 ∨ (recAll h sls ps).1 = 5 ∨ (recAll h sls ps).1 = 9
  | [], sls => .inl rfl
  | p :: ps, sls => by
    by_cases e : recvE h sls p = 0
    · rw [recAll_yes e]; exact recAll_cases h ps _
    · rw [recAll_no e]; exact recvE_cases h sls p
theorem resL_cases (h : Hd) (ps : List Pt) : (resL h ps).1 = 0 ∨ (resL h ps).1 = 1 ∨ (resL h ps).1 = 3 ∨ (resL h ps).1 = 5 ∨ (resL h ps).1 = 9 := by
  unfold resL
  have := recAll_cases h ps (List.replicate (partsN h.sz.toNat) .none)
  split
  · split
    · split
      · exact .inl rfl
      · exact .inr (.inr (.inl rfl))
    · rcases this with h | h | h | h <;> simp [h]
  · simp
theorem save_d {d : Str} (ok : OkR d) (e : (resL (hR d) (psR d (qC d))).1 = 0) : encR (hR d) (pres (hR d) (resL (hR d) (psR d (qC d))).2) = d ∧ GoodR (hR d) (resL (hR d) (psR d (qC d))).2 := by
  obtain ⟨h1, h2, h3⟩ := okR_enc ok
  obtain ⟨h4, h5, _⟩ := resL_pres h2 e
  exact ⟨by rw [h4]; exact h1.symm, h5⟩

set_option maxRecDepth 100000 in
set_option maxHeartbeats 16000000 in
theorem TransferResumes_law (R : Rd) (hG : ShaG R) (v0 : Value) (s0 : SeenV R (.sl 1 (.int .u8)) v0) : Fn Tryz.prog 8 [v0] [] R (fun v _ => v = .bool true) := by
  have hML := maxLen_eq
  obtain ⟨d, hdl, A, cap, rfl, hc, hdr⟩ := s0.bsV
  refine fn_of_vc mixed tabOk Tryz.func8 rfl (by kernel_rfl) (Nat.le_of_ble_eq_true rfl) ?_
  by_cases hf : (4000 : Int) < d.length
  · repeat (first | (refine ⟨fun h => ?_, fun h => ?_⟩; rotate_left 1; (focus (exfalso; (first | (with_reducible (cases h; done)) | (revert h; simp; done) | (revert h; simp; omega) | (revert h; simp [*]; done)))); clear h) | (refine ⟨fun h => ?_, fun h => ?_⟩; (focus (exfalso; (first | (with_reducible (cases h; done)) | (revert h; simp; done) | (revert h; simp; omega) | (revert h; simp [*]; done)))); clear h))
    refine ⟨[], _, awake42_ok _ (hG.rh _), ?_⟩
    rintro _ _ ⟨rfl, rfl⟩
    exact ⟨_, Ent.nil _, rfl⟩
  repeat (first | (refine ⟨fun h => ?_, fun h => ?_⟩; rotate_left 1; (focus (exfalso; (first | (with_reducible (cases h; done)) | (revert h; simp; done) | (revert h; simp; omega) | (revert h; simp [*]; done)))); clear h) | (refine ⟨fun h => ?_, fun h => ?_⟩; (focus (exfalso; (first | (with_reducible (cases h; done)) | (revert h; simp; done) | (revert h; simp; omega) | (revert h; simp [*]; done)))); clear h))
  refine ⟨[], _, Resume_ok _ (hG.rh _) d _ (by omega) (hdr.rh _), ?_⟩
  rintro _ _ (⟨hno, rfl, rfl⟩ | ⟨hok, hne, rfl, rfl⟩ | ⟨hok, he, g, rfl, C, cc, gdd, gp, sl, hgC, hcC, okS, hsl, rfl⟩)
  · repeat (first | (refine ⟨fun h => ?_, fun h => ?_⟩; rotate_left 1; (focus (exfalso; (first | (with_reducible (cases h; done)) | (revert h; simp; done) | (revert h; simp; omega) | (revert h; simp [*]; done)))); clear h) | (refine ⟨fun h => ?_, fun h => ?_⟩; (focus (exfalso; (first | (with_reducible (cases h; done)) | (revert h; simp; done) | (revert h; simp; omega) | (revert h; simp [*]; done)))); clear h))
    refine ⟨[], _, awake42_ok _ (hG.rh _), ?_⟩
    rintro _ _ ⟨rfl, rfl⟩
    repeat (first | (refine ⟨fun h => ?_, fun h => ?_⟩; rotate_left 1; (focus (exfalso; (first | (with_reducible (cases h; done)) | (revert h; simp; done) | (revert h; simp; omega) | (revert h; simp [*]; done)))); clear h) | (refine ⟨fun h => ?_, fun h => ?_⟩; (focus (exfalso; (first | (with_reducible (cases h; done)) | (revert h; simp; done) | (revert h; simp; omega) | (revert h; simp [*]; done)))); clear h))
    exact ⟨_, Ent.nil _, rfl⟩
  · rcases resL_cases (hR d) (psR d (qC d)) with e | e | e | e | e
    · exact absurd e hne
    · rw [e]
      repeat (first | (refine ⟨fun h => ?_, fun h => ?_⟩; rotate_left 1; (focus (exfalso; (first | (with_reducible (cases h; done)) | (revert h; simp; done) | (revert h; simp; omega) | (revert h; simp [*]; done)))); clear h) | (refine ⟨fun h => ?_, fun h => ?_⟩; (focus (exfalso; (first | (with_reducible (cases h; done)) | (revert h; simp; done) | (revert h; simp; omega) | (revert h; simp [*]; done)))); clear h))
      refine ⟨[], _, awake42_ok _ (hG.rh _), ?_⟩
      rintro _ _ ⟨rfl, rfl⟩
      repeat (first | (refine ⟨fun h => ?_, fun h => ?_⟩; rotate_left 1; (focus (exfalso; (first | (with_reducible (cases h; done)) | (revert h; simp; done) | (revert h; simp; omega) | (revert h; simp [*]; done)))); clear h) | (refine ⟨fun h => ?_, fun h => ?_⟩; (focus (exfalso; (first | (with_reducible (cases h; done)) | (revert h; simp; done) | (revert h; simp; omega) | (revert h; simp [*]; done)))); clear h))
      exact ⟨_, Ent.nil _, rfl⟩
    · rw [e]
      repeat (first | (refine ⟨fun h => ?_, fun h => ?_⟩; rotate_left 1; (focus (exfalso; (first | (with_reducible (cases h; done)) | (revert h; simp; done) | (revert h; simp; omega) | (revert h; simp [*]; done)))); clear h) | (refine ⟨fun h => ?_, fun h => ?_⟩; (focus (exfalso; (first | (with_reducible (cases h; done)) | (revert h; simp; done) | (revert h; simp; omega) | (revert h; simp [*]; done)))); clear h))
      refine ⟨[], _, awake42_ok _ (hG.rh _), ?_⟩
      rintro _ _ ⟨rfl, rfl⟩
      repeat (first | (refine ⟨fun h => ?_, fun h => ?_⟩; rotate_left 1; (focus (exfalso; (first | (with_reducible (cases h; done)) | (revert h; simp; done) | (revert h; simp; omega) | (revert h; simp [*]; done)))); clear h) | (refine ⟨fun h => ?_, fun h => ?_⟩; (focus (exfalso; (first | (with_reducible (cases h; done)) | (revert h; simp; done) | (revert h; simp; omega) | (revert h; simp [*]; done)))); clear h))
      exact ⟨_, Ent.nil _, rfl⟩
    · rw [e]
      repeat (first | (refine ⟨fun h => ?_, fun h => ?_⟩; rotate_left 1; (focus (exfalso; (first | (with_reducible (cases h; done)) | (revert h; simp; done) | (revert h; simp; omega) | (revert h; simp [*]; done)))); clear h) | (refine ⟨fun h => ?_, fun h => ?_⟩; (focus (exfalso; (first | (with_reducible (cases h; done)) | (revert h; simp; done) | (revert h; simp; omega) | (revert h; simp [*]; done)))); clear h))
      refine ⟨[], _, awake42_ok _ (hG.rh _), ?_⟩
      rintro _ _ ⟨rfl, rfl⟩
      repeat (first | (refine ⟨fun h => ?_, fun h => ?_⟩; rotate_left 1; (focus (exfalso; (first | (with_reducible (cases h; done)) | (revert h; simp; done) | (revert h; simp; omega) | (revert h; simp [*]; done)))); clear h) | (refine ⟨fun h => ?_, fun h => ?_⟩; (focus (exfalso; (first | (with_reducible (cases h; done)) | (revert h; simp; done) | (revert h; simp; omega) | (revert h; simp [*]; done)))); clear h))
      exact ⟨_, Ent.nil _, rfl⟩
    · rw [e]
      repeat (first | (refine ⟨fun h => ?_, fun h => ?_⟩; rotate_left 1; (focus (exfalso; (first | (with_reducible (cases h; done)) | (revert h; simp; done) | (revert h; simp; omega) | (revert h; simp [*]; done)))); clear h) | (refine ⟨fun h => ?_, fun h => ?_⟩; (focus (exfalso; (first | (with_reducible (cases h; done)) | (revert h; simp; done) | (revert h; simp; omega) | (revert h; simp [*]; done)))); clear h))
      refine ⟨[], _, awake42_ok _ (hG.rh _), ?_⟩
      rintro _ _ ⟨rfl, rfl⟩
      repeat (first | (refine ⟨fun h => ?_, fun h => ?_⟩; rotate_left 1; (focus (exfalso; (first | (with_reducible (cases h; done)) | (revert h; simp; done) | (revert h; simp; omega) | (revert h; simp [*]; done)))); clear h) | (refine ⟨fun h => ?_, fun h => ?_⟩; (focus (exfalso; (first | (with_reducible (cases h; done)) | (revert h; simp; done) | (revert h; simp; omega) | (revert h; simp [*]; done)))); clear h))
      exact ⟨_, Ent.nil _, rfl⟩
  · obtain ⟨hsv, gd⟩ := save_d hok he
    repeat (first | (refine ⟨fun h => ?_, fun h => ?_⟩; rotate_left 1; (focus (exfalso; (first | (with_reducible (cases h; done)) | (revert h; simp; done) | (revert h; simp; omega) | (revert h; simp [*]; done)))); clear h) | (refine ⟨fun h => ?_, fun h => ?_⟩; (focus (exfalso; (first | (with_reducible (cases h; done)) | (revert h; simp; done) | (revert h; simp; omega) | (revert h; simp [*]; done)))); clear h))
    rw [← hsl] at gd hsv
    refine ⟨[0,0,0,0,0], (.one 0 (.q 1 (.q 2 (.q 3 (.q 4 (.q 5 (.q 6 (.q 9 (.q 10 (.one 7 (.one 8 (.q 11 (.q 12 (.q 13 .nil)))))))))))))), by kernel_rfl, ?_⟩
    refine ⟨[], _, awake42_ok _ ((hG.rh _).rh _), ?_⟩
    rintro _ _ ⟨rfl, rfl⟩
    repeat (first | (refine ⟨fun h => ?_, fun h => ?_⟩; rotate_left 1; (focus (exfalso; (first | (with_reducible (cases h; done)) | (revert h; simp; done) | (revert h; simp; omega) | (revert h; simp [*]; done)))); clear h) | (refine ⟨fun h => ?_, fun h => ?_⟩; (focus (exfalso; (first | (with_reducible (cases h; done)) | (revert h; simp; done) | (revert h; simp; omega) | (revert h; simp [*]; done)))); clear h))
    refine ⟨d, rfl, fun j b hb => (hdr.rh _).at_ hb, ?_⟩
    repeat (first | (refine ⟨fun h => ?_, fun h => ?_⟩; rotate_left 1; (focus (exfalso; (first | (with_reducible (cases h; done)) | (revert h; simp; done) | (revert h; simp; omega) | (revert h; simp [*]; done)))); clear h) | (refine ⟨fun h => ?_, fun h => ?_⟩; (focus (exfalso; (first | (with_reducible (cases h; done)) | (revert h; simp; done) | (revert h; simp; omega) | (revert h; simp [*]; done)))); clear h))
    refine ⟨[], _, Save_ok _ gd ((rc_own (R := R) 0 1 2 3 4 hgC hcC okS rfl rfl rfl rfl rfl).rh _), ?_⟩
    rw [hsv]
    rintro _ _ ⟨A2, cap2, rfl, rfl, hg2, hc2⟩
    repeat (first | (refine ⟨fun h => ?_, fun h => ?_⟩; rotate_left 1; (focus (exfalso; (first | (with_reducible (cases h; done)) | (revert h; simp; done) | (revert h; simp; omega) | (revert h; simp [*]; done)))); clear h) | (refine ⟨fun h => ?_, fun h => ?_⟩; (focus (exfalso; (first | (with_reducible (cases h; done)) | (revert h; simp; done) | (revert h; simp; omega) | (revert h; simp [*]; done)))); clear h))
    refine ⟨d, rfl, fun j b hb => BsR.at_ (SlR.own 0 rfl (by rw [BV_length, Nat.mul_one]) hg2) hb, ?_⟩
    repeat (first | (refine ⟨fun h => ?_, fun h => ?_⟩; rotate_left 1; (focus (exfalso; (first | (with_reducible (cases h; done)) | (revert h; simp; done) | (revert h; simp; omega) | (revert h; simp [*]; done)))); clear h) | (refine ⟨fun h => ?_, fun h => ?_⟩; (focus (exfalso; (first | (with_reducible (cases h; done)) | (revert h; simp; done) | (revert h; simp; omega) | (revert h; simp [*]; done)))); clear h))
    exact ⟨_, Ent.nil _, congrArg Value.bool (decide_eq_true rfl)⟩

end Go.Proofs.YtnifppnpplgghaaGreatDoor
