/-
  Transfer: the law TransferSends.
-/
import Derived.Test.YtnifppnpplgghaaDoorTrn
namespace Go.Proofs.YtnifppnpplgghaaDoor
open Go Go.RowKit
set_option linter.unusedVariables false

set_option maxRecDepth 100000 in
set_option maxHeartbeats 4000000 in
theorem Valid_ok42 (R : Rd) (p : Pc) (D S : Value) (hd : Bs R D p.dt) (hs : Ss R S p.sums) : Fn Tryd.prog 13 [.agg ⟨pcC p D S⟩] [] R (fun v h => v = .bool (decide (VPc p)) ∧ h = []) := by
  have hd' := hd
  obtain ⟨A, cap, rfl, hc, hdr⟩ := hd'
  have hs' := hs
  obtain ⟨B, cb, rfl, hcb, hsr⟩ := hs'
  refine fn_of_vc mixed tabOk Tryd.func13 rfl (by kernel_rfl) (Nat.le_of_ble_eq_true rfl) ?_
  intro g
  refine ⟨_, rdOff (o := 0) (n := 2) 0 rfl rfl, rfl, ?_⟩
  refine ⟨_, ld 0 rfl rfl, ?_⟩
  refine ⟨_, ld 0 rfl rfl, ?_⟩
  refine ⟨[], _, Fits_ok _ p.hd (.slice B p.sums.length cb) (hs.rh _), ?_⟩
  rintro _ _ ⟨rfl, rfl⟩
  by_cases hf : FitH p.hd
  case neg =>
    rw [decide_eq_false hf]
    repeat (first | (refine ⟨fun h => ?_, fun h => ?_⟩; rotate_left 1; (focus (exfalso; (first | (with_reducible (cases h; done)) | (revert h; simp; done) | (revert h; simp; omega) | (revert h; simp [*]; done)))); clear h) | (refine ⟨fun h => ?_, fun h => ?_⟩; (focus (exfalso; (first | (with_reducible (cases h; done)) | (revert h; simp; done) | (revert h; simp; omega) | (revert h; simp [*]; done)))); clear h))
    exact ⟨_, Ent.nil _, no_D rfl (fun w => hf ⟨w.wf, w.root⟩), rfl⟩
  rw [decide_eq_true hf]
  repeat (first | (refine ⟨fun h => ?_, fun h => ?_⟩; rotate_left 1; (focus (exfalso; (first | (with_reducible (cases h; done)) | (revert h; simp; done) | (revert h; simp; omega) | (revert h; simp [*]; done)))); clear h) | (refine ⟨fun h => ?_, fun h => ?_⟩; (focus (exfalso; (first | (with_reducible (cases h; done)) | (revert h; simp; done) | (revert h; simp; omega) | (revert h; simp [*]; done)))); clear h))
  have hn2 : (p.dt.length : Int) ≤ 65536 := hf.1.s1
  have hi0 : 0 ≤ p.ix := hf.1.i0
  have hi1 : p.ix < p.sums.length := hf.1.i1
  refine ⟨_, ld 0 rfl rfl, ?_⟩
  refine ⟨[], _, refOf_ok _ p.dt A cap 512 (by omega) (by omega) hc (hdr.rh _), ?_⟩
  rintro _ _ ⟨rfl, rfl⟩
  rw [show ofV p.dt 512 = (rootOf (blockLeaves 512 p.dt), 0) from rfl]
  refine ⟨_, ld 0 rfl rfl, ?_⟩
  refine ⟨_, ld 0 rfl rfl, ?_⟩
  have hlt : p.ix.toNat < p.sums.length := by omega
  obtain ⟨a, ha, hr⟩ := hsr.one hlt
  rw [show (p.ix.toNat : Int) = p.ix by omega] at hr
  refine ⟨by omega, by omega, a, ha, ?_⟩
  refine ⟨_, .inl hr, ?_⟩
  by_cases c : rootOf (blockLeaves 512 p.dt) = p.sums.getD p.ix.toNat []
  · exact ⟨_, Ent.nil _, yes_D (decide_eq_true c) ⟨hf.1, c, hf.2⟩, rfl⟩
  · exact ⟨_, Ent.nil _, no_D (decide_eq_false c) (fun w => c w.sum), rfl⟩

set_option maxRecDepth 100000 in
set_option maxHeartbeats 16000000 in
theorem TransferSends_law (R : Rd) (hG : ShaG R) (v0 v1 : Value) (s0 : SeenV R PcShp v0) (s1 : SeenV R (.int .i64) v1) : Fn Tryd.prog 4 [v0, v1] [] R (fun v _ => v = .bool true) := by
  have hML := maxLen_eq
  obtain ⟨p, D0, B, rfl, hd, hs, hix, hdl, hsl⟩ := s0.pcV
  obtain ⟨off, rfl, ho1, ho2⟩ := s1.i64
  have hs' := hs
  obtain ⟨C, cc, rfl, hcc, hsr⟩ := hs'
  have hd' := hd
  obtain ⟨E, ce, rfl, hce, hdr⟩ := hd'
  refine fn_of_vc mixed tabOk Tryd.func4 rfl (by kernel_rfl) (Nat.le_of_ble_eq_true rfl) ?_
  intro gb
  refine ⟨_, ld 0 rfl rfl, ?_⟩
  refine ⟨_, ld 0 rfl rfl, ?_⟩
  refine ⟨rfl, fun g1 => ?_⟩
  refine ⟨[], _, few42_ok _ E (some ⟨g1, 0, .none⟩) p.dt.length ce 1 C p.sums.length cc (SlR.own 1 rfl rfl (.inr ⟨g1, rfl⟩)), ?_⟩
  rintro _ _ ⟨rfl, rfl⟩
  by_cases hf : p.sums.length ≤ 20 ∧ p.dt.length ≤ 2600
  case neg =>
    rw [decide_eq_false hf]
    repeat (first | (refine ⟨fun h => ?_, fun h => ?_⟩; rotate_left 1; (focus (exfalso; (first | (with_reducible (cases h; done)) | (revert h; simp; done) | (revert h; simp; omega) | (revert h; simp [*]; done)))); clear h) | (refine ⟨fun h => ?_, fun h => ?_⟩; (focus (exfalso; (first | (with_reducible (cases h; done)) | (revert h; simp; done) | (revert h; simp; omega) | (revert h; simp [*]; done)))); clear h))
    refine ⟨[], _, awake42_ok _ (hG.rh _), ?_⟩
    rintro _ _ ⟨rfl, rfl⟩
    exact ⟨_, Ent.nil _, rfl⟩
  rw [decide_eq_true hf]
  repeat (first | (refine ⟨fun h => ?_, fun h => ?_⟩; rotate_left 1; (focus (exfalso; (first | (with_reducible (cases h; done)) | (revert h; simp; done) | (revert h; simp; omega) | (revert h; simp [*]; done)))); clear h) | (refine ⟨fun h => ?_, fun h => ?_⟩; (focus (exfalso; (first | (with_reducible (cases h; done)) | (revert h; simp; done) | (revert h; simp; omega) | (revert h; simp [*]; done)))); clear h))
  refine ⟨_, rdOff (o := 0) (n := 4) 0 rfl rfl, rfl, ?_⟩
  refine ⟨[], _, NewSender_ok _ (hG.rh _) p _ _ (hd.rh _) (hs.rh _), ?_⟩
  rintro _ _ (⟨w, rfl, rfl⟩ | ⟨w, gs, rfl, SC, scc, SD, scd, hg1, hc1, hg2, hc2, rfl⟩)
  · refine ⟨_, rdOff (o := 0) (n := 4) 0 rfl rfl, rfl, ?_⟩
    refine ⟨[], _, Valid_ok42 _ p _ _ (hd.rh _) (hs.rh _), ?_⟩
    rintro _ _ ⟨rfl, rfl⟩
    rw [decide_eq_false w]
    repeat (first | (refine ⟨fun h => ?_, fun h => ?_⟩; rotate_left 1; (focus (exfalso; (first | (with_reducible (cases h; done)) | (revert h; simp; done) | (revert h; simp; omega) | (revert h; simp [*]; done)))); clear h) | (refine ⟨fun h => ?_, fun h => ?_⟩; (focus (exfalso; (first | (with_reducible (cases h; done)) | (revert h; simp; done) | (revert h; simp; omega) | (revert h; simp [*]; done)))); clear h))
    refine ⟨[], _, awake42_ok _ (hG.rh _), ?_⟩
    rintro _ _ ⟨rfl, rfl⟩
    repeat (first | (refine ⟨fun h => ?_, fun h => ?_⟩; rotate_left 1; (focus (exfalso; (first | (with_reducible (cases h; done)) | (revert h; simp; done) | (revert h; simp; omega) | (revert h; simp [*]; done)))); clear h) | (refine ⟨fun h => ?_, fun h => ?_⟩; (focus (exfalso; (first | (with_reducible (cases h; done)) | (revert h; simp; done) | (revert h; simp; omega) | (revert h; simp [*]; done)))); clear h))
    exact ⟨_, Ent.nil _, rfl⟩
  refine ⟨_, rdOff (o := 0) (n := 4) 0 rfl rfl, rfl, ?_⟩
  refine ⟨[], _, Valid_ok42 _ p _ _ (hd.rh _) (hs.rh _), ?_⟩
  rintro _ _ ⟨rfl, rfl⟩
  rw [decide_eq_true w]
  repeat (first | (refine ⟨fun h => ?_, fun h => ?_⟩; rotate_left 1; (focus (exfalso; (first | (with_reducible (cases h; done)) | (revert h; simp; done) | (revert h; simp; omega) | (revert h; simp [*]; done)))); clear h) | (refine ⟨fun h => ?_, fun h => ?_⟩; (focus (exfalso; (first | (with_reducible (cases h; done)) | (revert h; simp; done) | (revert h; simp; omega) | (revert h; simp [*]; done)))); clear h))
  refine ⟨[0], (.q 0 (.q 1 (.q 2 (.q 3 (.q 4 (.q 5 (.q 6 (.q 7 (.q 9 (.q 10 (.q 11 (.one 8 (.one 12 (.q 13 (.q 14 (.q 15 (.q 16 (.q 18 (.q 19 (.q 20 (.q 21 (.q 22 (.q 23 (.q 24 (.q 25 (.one 17 (.one 26 (.q 27 (.q 28 .nil))))))))))))))))))))))))))))), by kernel_rfl, ?_⟩
  repeat (first | (refine ⟨fun h => ?_, fun h => ?_⟩; rotate_left 1; (focus (exfalso; (first | (with_reducible (cases h; done)) | (revert h; simp; done) | (revert h; simp; omega) | (revert h; simp [*]; done)))); clear h) | (refine ⟨fun h => ?_, fun h => ?_⟩; (focus (exfalso; (first | (with_reducible (cases h; done)) | (revert h; simp; done) | (revert h; simp; omega) | (revert h; simp [*]; done)))); clear h))
  refine ⟨_, ld 0 rfl rfl, ?_⟩
  repeat (first | (refine ⟨fun h => ?_, fun h => ?_⟩; rotate_left 1; (focus (exfalso; (first | (with_reducible (cases h; done)) | (revert h; simp; done) | (revert h; simp; omega) | (revert h; simp [*]; done)))); clear h) | (refine ⟨fun h => ?_, fun h => ?_⟩; (focus (exfalso; (first | (with_reducible (cases h; done)) | (revert h; simp; done) | (revert h; simp; omega) | (revert h; simp [*]; done)))); clear h))
  refine ⟨[], _, SParts_ok _ (by omega) (sd_own 1 2 3 hg1 hc1 hg2 hc2 rfl rfl rfl), ?_⟩
  rintro _ _ ⟨rfl, rfl⟩
  repeat (first | (refine ⟨fun h => ?_, fun h => ?_⟩; rotate_left 1; (focus (exfalso; (first | (with_reducible (cases h; done)) | (revert h; simp; done) | (revert h; simp; omega) | (revert h; simp [*]; done)))); clear h) | (refine ⟨fun h => ?_, fun h => ?_⟩; (focus (exfalso; (first | (with_reducible (cases h; done)) | (revert h; simp; done) | (revert h; simp; omega) | (revert h; simp [*]; done)))); clear h))
  refine ⟨[], _, rParts_ok _ p.dt.length (by omega), ?_⟩
  rintro _ _ ⟨rfl, rfl⟩
  generalize partsN p.dt.length = pn
  repeat (first | (refine ⟨fun h => ?_, fun h => ?_⟩; rotate_left 1; (focus (exfalso; (first | (with_reducible (cases h; done)) | (revert h; simp; done) | (revert h; simp; omega) | (revert h; simp [*]; done)))); clear h) | (refine ⟨fun h => ?_, fun h => ?_⟩; (focus (exfalso; (first | (with_reducible (cases h; done)) | (revert h; simp; done) | (revert h; simp; omega) | (revert h; simp [*]; done)))); clear h))
  refine ⟨_, rdOff (o := 0) (n := 2) 0 rfl rfl, rfl, ?_⟩
  repeat (first | (refine ⟨fun h => ?_, fun h => ?_⟩; rotate_left 1; (focus (exfalso; (first | (with_reducible (cases h; done)) | (revert h; simp; done) | (revert h; simp; omega) | (revert h; simp [*]; done)))); clear h) | (refine ⟨fun h => ?_, fun h => ?_⟩; (focus (exfalso; (first | (with_reducible (cases h; done)) | (revert h; simp; done) | (revert h; simp; omega) | (revert h; simp [*]; done)))); clear h))
  refine ⟨_, ld 0 rfl rfl, ?_⟩
  repeat (first | (refine ⟨fun h => ?_, fun h => ?_⟩; rotate_left 1; (focus (exfalso; (first | (with_reducible (cases h; done)) | (revert h; simp; done) | (revert h; simp; omega) | (revert h; simp [*]; done)))); clear h) | (refine ⟨fun h => ?_, fun h => ?_⟩; (focus (exfalso; (first | (with_reducible (cases h; done)) | (revert h; simp; done) | (revert h; simp; omega) | (revert h; simp [*]; done)))); clear h))
  refine ⟨_, ld 0 rfl rfl, ?_⟩
  repeat (first | (refine ⟨fun h => ?_, fun h => ?_⟩; rotate_left 1; (focus (exfalso; (first | (with_reducible (cases h; done)) | (revert h; simp; done) | (revert h; simp; omega) | (revert h; simp [*]; done)))); clear h) | (refine ⟨fun h => ?_, fun h => ?_⟩; (focus (exfalso; (first | (with_reducible (cases h; done)) | (revert h; simp; done) | (revert h; simp; omega) | (revert h; simp [*]; done)))); clear h))
  refine ⟨[], _, SHead_ok _ (by omega) (sd_own 1 2 3 hg1 hc1 hg2 hc2 rfl rfl rfl), ?_⟩
  rintro _ _ ⟨F, fc, rfl, rfl, hgf, hcf⟩
  repeat (first | (refine ⟨fun h => ?_, fun h => ?_⟩; rotate_left 1; (focus (exfalso; (first | (with_reducible (cases h; done)) | (revert h; simp; done) | (revert h; simp; omega) | (revert h; simp [*]; done)))); clear h) | (refine ⟨fun h => ?_, fun h => ?_⟩; (focus (exfalso; (first | (with_reducible (cases h; done)) | (revert h; simp; done) | (revert h; simp; omega) | (revert h; simp [*]; done)))); clear h))
  refine ⟨[], _, sameHead_ok _ p.hd p.hd _ (.slice C p.sums.length cc) (by show p.sums.length ≤ _; omega) (ss_own 4 rfl hgf hcf) ((hs.rh _).rh _), ?_⟩
  rintro _ _ ⟨rfl, rfl⟩
  rw [decide_eq_true (show eqHd p.hd p.hd from ⟨⟨rfl, rfl⟩, rfl, rfl⟩)]
  repeat (first | (refine ⟨fun h => ?_, fun h => ?_⟩; rotate_left 1; (focus (exfalso; (first | (with_reducible (cases h; done)) | (revert h; simp; done) | (revert h; simp; omega) | (revert h; simp [*]; done)))); clear h) | (refine ⟨fun h => ?_, fun h => ?_⟩; (focus (exfalso; (first | (with_reducible (cases h; done)) | (revert h; simp; done) | (revert h; simp; omega) | (revert h; simp [*]; done)))); clear h))
  refine ⟨[], _, SPart_ok _ (hG.rh _) (by omega) off ho1 ho2 (sd_own 2 3 4 hg1 hc1 hg2 hc2 rfl rfl rfl), ?_⟩
  rintro _ _ (⟨ht, rfl, rfl⟩ | ⟨ht, AD, acd, AP, acp, rfl, rfl, hgAD, hcAD, hgAP, hcAP⟩)
  · intro g7
    refine ⟨rfl, rfl, 6, rfl, rfl, Nat.le_of_ble_eq_true rfl, ?_⟩
    refine ⟨_, ld 0 rfl rfl, ?_⟩
    refine ⟨[], _, There_ok _ off p.dt.length ho1 ho2, ?_⟩
    rintro _ _ ⟨rfl, rfl⟩
    rw [ht]
    repeat (first | (refine ⟨fun h => ?_, fun h => ?_⟩; rotate_left 1; (focus (exfalso; (first | (with_reducible (cases h; done)) | (revert h; simp; done) | (revert h; simp; omega) | (revert h; simp [*]; done)))); clear h) | (refine ⟨fun h => ?_, fun h => ?_⟩; (focus (exfalso; (first | (with_reducible (cases h; done)) | (revert h; simp; done) | (revert h; simp; omega) | (revert h; simp [*]; done)))); clear h))
    refine ⟨[], _, awake42_ok _ (hG.rh _), ?_⟩
    rintro _ _ ⟨rfl, rfl⟩
    repeat (first | (refine ⟨fun h => ?_, fun h => ?_⟩; rotate_left 1; (focus (exfalso; (first | (with_reducible (cases h; done)) | (revert h; simp; done) | (revert h; simp; omega) | (revert h; simp [*]; done)))); clear h) | (refine ⟨fun h => ?_, fun h => ?_⟩; (focus (exfalso; (first | (with_reducible (cases h; done)) | (revert h; simp; done) | (revert h; simp; omega) | (revert h; simp [*]; done)))); clear h))
    refine ⟨_, ld 6 rfl rfl, ?_⟩
    repeat (first | (refine ⟨fun h => ?_, fun h => ?_⟩; rotate_left 1; (focus (exfalso; (first | (with_reducible (cases h; done)) | (revert h; simp; done) | (revert h; simp; omega) | (revert h; simp [*]; done)))); clear h) | (refine ⟨fun h => ?_, fun h => ?_⟩; (focus (exfalso; (first | (with_reducible (cases h; done)) | (revert h; simp; done) | (revert h; simp; omega) | (revert h; simp [*]; done)))); clear h))
    refine ⟨_, ld 6 rfl rfl, ?_⟩
    repeat (first | (refine ⟨fun h => ?_, fun h => ?_⟩; rotate_left 1; (focus (exfalso; (first | (with_reducible (cases h; done)) | (revert h; simp; done) | (revert h; simp; omega) | (revert h; simp [*]; done)))); clear h) | (refine ⟨fun h => ?_, fun h => ?_⟩; (focus (exfalso; (first | (with_reducible (cases h; done)) | (revert h; simp; done) | (revert h; simp; omega) | (revert h; simp [*]; done)))); clear h))
    exact ⟨_, Ent.nil _, rfl⟩
  intro g7
  refine ⟨rfl, rfl, 8, rfl, rfl, Nat.le_of_ble_eq_true rfl, ?_⟩
  refine ⟨_, ld 0 rfl rfl, ?_⟩
  refine ⟨[], _, There_ok _ off p.dt.length ho1 ho2, ?_⟩
  rintro _ _ ⟨rfl, rfl⟩
  rw [ht]
  repeat (first | (refine ⟨fun h => ?_, fun h => ?_⟩; rotate_left 1; (focus (exfalso; (first | (with_reducible (cases h; done)) | (revert h; simp; done) | (revert h; simp; omega) | (revert h; simp [*]; done)))); clear h) | (refine ⟨fun h => ?_, fun h => ?_⟩; (focus (exfalso; (first | (with_reducible (cases h; done)) | (revert h; simp; done) | (revert h; simp; omega) | (revert h; simp [*]; done)))); clear h))
  refine ⟨[0,7], (.one 0 (.q 1 (.q 2 (.q 3 (.q 4 (.q 5 (.q 6 (.q 7 (.q 8 (.one 9 (.one 10 (.q 11 (.q 12 .nil))))))))))))), by kernel_rfl, ?_⟩
  refine ⟨[], _, awake42_ok _ ((hG.rh _).rh _), ?_⟩
  rintro _ _ ⟨rfl, rfl⟩
  repeat (first | (refine ⟨fun h => ?_, fun h => ?_⟩; rotate_left 1; (focus (exfalso; (first | (with_reducible (cases h; done)) | (revert h; simp; done) | (revert h; simp; omega) | (revert h; simp [*]; done)))); clear h) | (refine ⟨fun h => ?_, fun h => ?_⟩; (focus (exfalso; (first | (with_reducible (cases h; done)) | (revert h; simp; done) | (revert h; simp; omega) | (revert h; simp [*]; done)))); clear h))
  refine ⟨_, rdOff (o := 0) (n := 5) 1 rfl rfl, rfl, ?_⟩
  repeat (first | (refine ⟨fun h => ?_, fun h => ?_⟩; rotate_left 1; (focus (exfalso; (first | (with_reducible (cases h; done)) | (revert h; simp; done) | (revert h; simp; omega) | (revert h; simp [*]; done)))); clear h) | (refine ⟨fun h => ?_, fun h => ?_⟩; (focus (exfalso; (first | (with_reducible (cases h; done)) | (revert h; simp; done) | (revert h; simp; omega) | (revert h; simp [*]; done)))); clear h))
  refine ⟨_, rdOff (o := 0) (n := 4) 0 rfl rfl, rfl, ?_⟩
  repeat (first | (refine ⟨fun h => ?_, fun h => ?_⟩; rotate_left 1; (focus (exfalso; (first | (with_reducible (cases h; done)) | (revert h; simp; done) | (revert h; simp; omega) | (revert h; simp [*]; done)))); clear h) | (refine ⟨fun h => ?_, fun h => ?_⟩; (focus (exfalso; (first | (with_reducible (cases h; done)) | (revert h; simp; done) | (revert h; simp; omega) | (revert h; simp [*]; done)))); clear h))
  refine ⟨[], _, rShow_ok _ p _ _ (by omega) off ht ((hd.rh _).rh _), ?_⟩
  rintro _ _ ⟨QD, qcd, QP, qcp, rfl, rfl, hgQD, hcQD, hgQP, hcQP⟩
  repeat (first | (refine ⟨fun h => ?_, fun h => ?_⟩; rotate_left 1; (focus (exfalso; (first | (with_reducible (cases h; done)) | (revert h; simp; done) | (revert h; simp; omega) | (revert h; simp [*]; done)))); clear h) | (refine ⟨fun h => ?_, fun h => ?_⟩; (focus (exfalso; (first | (with_reducible (cases h; done)) | (revert h; simp; done) | (revert h; simp; omega) | (revert h; simp [*]; done)))); clear h))
  have hpl := part_path_le p (off.toNat / 512)
  refine ⟨[], _, samePart_ok _ (partAt p (off.toNat / 512)) (partAt p (off.toNat / 512)) _ _ _ _ (by omega) (bs_own 5 rfl hgAD hcAD) (ss_own 6 rfl hgAP hcAP) (bs_own 7 rfl hgQD hcQD) (ss_own 8 rfl hgQP hcQP), ?_⟩
  rintro _ _ ⟨rfl, rfl⟩
  rw [decide_eq_true (show eqPt (partAt p (off.toNat / 512)) (partAt p (off.toNat / 512)) from ⟨⟨rfl, rfl⟩, rfl, rfl, rfl⟩)]
  repeat (first | (refine ⟨fun h => ?_, fun h => ?_⟩; rotate_left 1; (focus (exfalso; (first | (with_reducible (cases h; done)) | (revert h; simp; done) | (revert h; simp; omega) | (revert h; simp [*]; done)))); clear h) | (refine ⟨fun h => ?_, fun h => ?_⟩; (focus (exfalso; (first | (with_reducible (cases h; done)) | (revert h; simp; done) | (revert h; simp; omega) | (revert h; simp [*]; done)))); clear h))
  exact ⟨_, Ent.nil _, rfl⟩

end Go.Proofs.YtnifppnpplgghaaDoor
