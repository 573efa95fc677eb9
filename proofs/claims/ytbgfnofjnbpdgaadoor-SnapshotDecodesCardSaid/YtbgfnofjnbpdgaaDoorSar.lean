/-
  The laws SnapshotEncodes and SnapshotDecodes.
-/
import Derived.Test.YtbgfnofjnbpdgaaDoorSaq
namespace Go.Proofs.YtbgfnofjnbpdgaaDoor
open Go Go.RowKit
set_option linter.unusedVariables false

theorem encL_le {C : Lg} (hC : GoodC C) (hn : countC C ≤ 4096) : (encL (flatC C)).length ≤ 10 + countC C * 202 := by
  have := encU_le hC hn (w := 12) (k := 0) (Nat.le_refl _)
  rw [encU_all] at this
  exact this

set_option maxRecDepth 100000 in
set_option maxHeartbeats 8000000 in
theorem SnapshotEncodes_law (R : Rd) (hG : ShaG R) (v0 : Value) (s0 : SeenV R (.sl 15 OpShp) v0) :
    Fn Tryd.prog 11 [v0] [] R (fun v _ => v = .bool true) := by
  obtain ⟨l, A, cap, hok, rfl, hs⟩ := s0.sops
  refine fn_of_vc mixed tabOk Tryd.func11 rfl (by kernel_rfl) (Nat.le_of_ble_eq_true rfl) ?_
  refine ⟨[], _, awake26_ok _ (hG.rh _), ?_⟩
  rintro _ _ ⟨rfl, rfl⟩
  repeat (first | (refine ⟨fun h => ?_, fun h => ?_⟩; rotate_left 1; (focus (exfalso; (first | (with_reducible (cases h; done)) | (revert h; simp; done) | (revert h; simp; omega) | (revert h; simp [*]; done)))); clear h) | (refine ⟨fun h => ?_, fun h => ?_⟩; (focus (exfalso; (first | (with_reducible (cases h; done)) | (revert h; simp; done) | (revert h; simp; omega) | (revert h; simp [*]; done)))); clear h))
  by_cases hlen : (30 : Int) < l.length
  · repeat (first | (refine ⟨fun h => ?_, fun h => ?_⟩; rotate_left 1; (focus (exfalso; (first | (with_reducible (cases h; done)) | (revert h; simp; done) | (revert h; simp; omega) | (revert h; simp [*]; done)))); clear h) | (refine ⟨fun h => ?_, fun h => ?_⟩; (focus (exfalso; (first | (with_reducible (cases h; done)) | (revert h; simp; done) | (revert h; simp; omega) | (revert h; simp [*]; done)))); clear h))
    exact ⟨_, Ent.nil _, rfl⟩
  repeat (first | (refine ⟨fun h => ?_, fun h => ?_⟩; rotate_left 1; (focus (exfalso; (first | (with_reducible (cases h; done)) | (revert h; simp; done) | (revert h; simp; omega) | (revert h; simp [*]; done)))); clear h) | (refine ⟨fun h => ?_, fun h => ?_⟩; (focus (exfalso; (first | (with_reducible (cases h; done)) | (revert h; simp; done) | (revert h; simp; omega) | (revert h; simp [*]; done)))); clear h))
  obtain ⟨hC, hn⟩ := built_good l
  refine ⟨[], _, built_ok _ (hG.rh _) (hs.rh _) (by omega) hok, ?_⟩
  generalize runC C00 l = C at *
  have hle := encL_le hC (by omega)
  have hfl := flatC_length C
  rintro _ _ ⟨g, r, st, c, A1, cap1, rfl, hlok, hch, hg1, rfl⟩
  refine ⟨[1], _, Encode_ok _ hlok (logR_own 0 1 hlok rfl rfl) hch hC (by omega), ?_⟩
  rintro _ _ ⟨_, ⟨A2, k2, cap2, xs2, rfl, rfl, hk2, hx2, hg2⟩, rfl⟩
  refine ⟨[4], (.q 0 (.q 1 (.q 2 (.one 3 (.one 4 (.q 5 .nil)))))), by kernel_rfl, ?_⟩
  refine ⟨encL (flatC C), hk2.symm, fun j b hjb => (BsR.own 0 rfl hk2 hx2 hg2).at_ hjb, ?_⟩
  refine ⟨[], _, refEncode26_ok _ (SlR.own 2 rfl (mks_length _) hg1) (by omega) (flat_valid2 hC), ?_⟩
  rintro _ _ ⟨A3, k3, cap3, xs3, rfl, rfl, hk3, hx3, hg3⟩
  refine ⟨encL (flatC C), hk3.symm, fun j b hjb => (BsR.own 4 rfl hk3 hx3 hg3).at_ hjb, ?_⟩
  repeat (first | (refine ⟨fun h => ?_, fun h => ?_⟩; rotate_left 1; (focus (exfalso; (first | (with_reducible (cases h; done)) | (revert h; simp; done) | (revert h; simp; omega) | (revert h; simp [*]; done)))); clear h) | (refine ⟨fun h => ?_, fun h => ?_⟩; (focus (exfalso; (first | (with_reducible (cases h; done)) | (revert h; simp; done) | (revert h; simp; omega) | (revert h; simp [*]; done)))); clear h))
  subst hk2
  refine ⟨[], _, Decode_ok _ (hG.rh _) (d := encL (flatC C)) (by omega) (BsR.own 0 rfl rfl hx2 hg2), ?_⟩
  rintro _ _ (⟨rfl, rfl, hbad⟩ | ⟨gk, C2, rfl, ⟨rk, stk, ck, hlokk, hchk, rfl⟩, hC2, hn2, henc, huniq⟩)
  · exact absurd rfl (hbad C hC (by omega))
  obtain rfl : C2 = C := huniq C hC (by omega) rfl
  repeat (first | (refine ⟨fun h => ?_, fun h => ?_⟩; rotate_left 1; (focus (exfalso; (first | (with_reducible (cases h; done)) | (revert h; simp; done) | (revert h; simp; omega) | (revert h; simp [*]; done)))); clear h) | (refine ⟨fun h => ?_, fun h => ?_⟩; (focus (exfalso; (first | (with_reducible (cases h; done)) | (revert h; simp; done) | (revert h; simp; omega) | (revert h; simp [*]; done)))); clear h))
  refine ⟨[7], _, same26_ok _ (logR_own 6 7 hlokk rfl rfl) hchk hC (by omega) (SlR.own 3 rfl (mks_length _) hg1), ?_⟩
  rintro _ _ ⟨rfl, rfl⟩
  repeat (first | (refine ⟨fun h => ?_, fun h => ?_⟩; rotate_left 1; (focus (exfalso; (first | (with_reducible (cases h; done)) | (revert h; simp; done) | (revert h; simp; omega) | (revert h; simp [*]; done)))); clear h) | (refine ⟨fun h => ?_, fun h => ?_⟩; (focus (exfalso; (first | (with_reducible (cases h; done)) | (revert h; simp; done) | (revert h; simp; omega) | (revert h; simp [*]; done)))); clear h))
  exact ⟨_, Ent.nil _, rfl⟩

def lcount (C : Lg) (w : Nat) : Nat := ((List.range w).map fun v : Nat => (C v).length).sum
theorem lcount_succ (C : Lg) (w : Nat) : lcount C (w + 1) = lcount C w + (C w).length := by
  unfold lcount
  rw [List.range_succ, List.map_append, List.sum_append]
  simp
theorem lcount_all (C : Lg) : lcount C 12 = countC C := rfl
theorem lcount_le {C : Lg} {M : Nat} (h : ∀ v : Nat, (C v).length ≤ M) : ∀ w, lcount C w ≤ w * M
  | 0 => by show 0 ≤ _; omega
  | w + 1 => by
    rw [lcount_succ, Nat.add_mul]
    have := lcount_le h w
    have := h w
    omega

set_option maxRecDepth 100000 in
set_option maxHeartbeats 8000000 in
theorem SnapshotDecodes_law (R : Rd) (hG : ShaG R) (v0 : Value) (s0 : SeenV R (.sl 1 (.int .u8)) v0) :
    Fn Tryd.prog 12 [v0] [] R (fun v _ => v = .bool true) := by
  obtain ⟨d, hdm, hs⟩ := s0.bytes
  obtain ⟨A, cap, rfl⟩ := hs.form
  refine fn_of_vc mixed tabOk Tryd.func12 rfl (by kernel_rfl) (Nat.le_of_ble_eq_true rfl) ?_
  refine ⟨[], _, awake26_ok _ (hG.rh _), ?_⟩
  rintro _ _ ⟨rfl, rfl⟩
  repeat (first | (refine ⟨fun h => ?_, fun h => ?_⟩; rotate_left 1; (focus (exfalso; (first | (with_reducible (cases h; done)) | (revert h; simp; done) | (revert h; simp; omega) | (revert h; simp [*]; done)))); clear h) | (refine ⟨fun h => ?_, fun h => ?_⟩; (focus (exfalso; (first | (with_reducible (cases h; done)) | (revert h; simp; done) | (revert h; simp; omega) | (revert h; simp [*]; done)))); clear h))
  by_cases hlen : (4000 : Int) < d.length
  · repeat (first | (refine ⟨fun h => ?_, fun h => ?_⟩; rotate_left 1; (focus (exfalso; (first | (with_reducible (cases h; done)) | (revert h; simp; done) | (revert h; simp; omega) | (revert h; simp [*]; done)))); clear h) | (refine ⟨fun h => ?_, fun h => ?_⟩; (focus (exfalso; (first | (with_reducible (cases h; done)) | (revert h; simp; done) | (revert h; simp; omega) | (revert h; simp [*]; done)))); clear h))
    exact ⟨_, Ent.nil _, rfl⟩
  repeat (first | (refine ⟨fun h => ?_, fun h => ?_⟩; rotate_left 1; (focus (exfalso; (first | (with_reducible (cases h; done)) | (revert h; simp; done) | (revert h; simp; omega) | (revert h; simp [*]; done)))); clear h) | (refine ⟨fun h => ?_, fun h => ?_⟩; (focus (exfalso; (first | (with_reducible (cases h; done)) | (revert h; simp; done) | (revert h; simp; omega) | (revert h; simp [*]; done)))); clear h))
  refine ⟨[], _, Decode_ok _ (hG.rh _) (by omega) (hs.rh _), ?_⟩
  rintro _ _ (⟨rfl, rfl, hbad⟩ | ⟨g, C, rfl, ⟨r, st, c, hlok, hch, rfl⟩, hC, hn, henc, huniq⟩)
  · repeat (first | (refine ⟨fun h => ?_, fun h => ?_⟩; rotate_left 1; (focus (exfalso; (first | (with_reducible (cases h; done)) | (revert h; simp; done) | (revert h; simp; omega) | (revert h; simp [*]; done)))); clear h) | (refine ⟨fun h => ?_, fun h => ?_⟩; (focus (exfalso; (first | (with_reducible (cases h; done)) | (revert h; simp; done) | (revert h; simp; omega) | (revert h; simp [*]; done)))); clear h))
    exact ⟨_, Ent.nil _, rfl⟩
  repeat (first | (refine ⟨fun h => ?_, fun h => ?_⟩; rotate_left 1; (focus (exfalso; (first | (with_reducible (cases h; done)) | (revert h; simp; done) | (revert h; simp; omega) | (revert h; simp [*]; done)))); clear h) | (refine ⟨fun h => ?_, fun h => ?_⟩; (focus (exfalso; (first | (with_reducible (cases h; done)) | (revert h; simp; done) | (revert h; simp; omega) | (revert h; simp [*]; done)))); clear h))
  refine ⟨[1], _, Retained_ok _ (logR_own 0 1 hlok rfl rfl) hch hC (by omega), ?_⟩
  have hrl := retC_length C
  rintro _ _ ⟨_, ⟨A2, cap2, hg2, rfl, rfl⟩, rfl⟩
  generalize retC C = q at *
  refine ⟨[none, none, some 2, none, none, none, some 6, some 7, some 8, none, none, none, none, none, none, none, none, none, none, none, none, none, none, none, none, some 25, some 26, some 27, some 28, some 29, some 30, some 31, some 32, some 33, some 34, some 35, some 36, some 37, some 38], [6, 7], Nat, fun w => w ≤ 12, fun w => [.int .i64 (lcount C w), .int .i64 w], fun w => [.blk g 77 [.map (some r)], .rows (rowsOf st), logM r st c, .row A2 q.length cap2 34 10 (snaps q) (0, 0)], fun w => 12 - w, 0, Nat.zero_le _, ⟨rfl, rfl, trivial⟩, Ent.refl _, ?_⟩
  intro w hw js
  have hlw := len_le_count hC.out w
  have hlc := lcount_le (C := C) (M := 4096) (fun v => by have := len_le_count hC.out v; omega) w
  refine ⟨fun hb0 => ?_, fun hb0 => ?_⟩
  · have hb1 := of_decide_eq_true hb0
    have hw12 : w < 12 := by omega
    clear hb0 hb1
    refine ⟨[2], _, Of_okC _ (logR_own 0 1 hlok rfl rfl) hch hC (by omega) w, ?_⟩
    have hver := good_verP hC w
    have hml : ((C w).map Rec.shown).length = (C w).length := List.length_map _
    generalize (C w).map Rec.shown = p at *
    rintro _ _ ⟨_, ⟨A3, cap3, hg3, rfl, rfl⟩, rfl⟩
    intro z hz; obtain rfl : z = ((lcount C (w + 1) : Nat) : Int) := by rw [IntKind.wrap_i64] at hz; rw [lcount_succ]; omega
    clear hz
    refine ⟨[], _, Verify_ok _ (hG.rh _) (SlR.own 4 rfl (snaps_length _) hg3) (by omega), ?_⟩
    rw [hver]
    rintro _ _ ⟨rfl, rfl⟩
    repeat (first | (refine ⟨fun h => ?_, fun h => ?_⟩; rotate_left 1; (focus (exfalso; (first | (with_reducible (cases h; done)) | (revert h; simp; done) | (revert h; simp; omega) | (revert h; simp [*]; done)))); clear h) | (refine ⟨fun h => ?_, fun h => ?_⟩; (focus (exfalso; (first | (with_reducible (cases h; done)) | (revert h; simp; done) | (revert h; simp; omega) | (revert h; simp [*]; done)))); clear h))
    (intro z hz; obtain rfl : z = ((w + 1 : Nat) : Int) := (by first | (rw [IntKind.wrap_i64] at hz; omega) | (rw [IntKind.wrap_u64] at hz; omega) | omega); clear hz)
    exact ⟨rfl, w + 1, hw12, by show 12 - (w + 1) < 12 - w; omega, ⟨rfl, rfl, trivial⟩, Ent.pick [0, 0, 1, 0] rfl, rfl⟩
  · have hb1 := of_decide_eq_false hb0
    obtain rfl : w = 12 := by omega
    clear hb0 hb1
    rw [lcount_all]
    refine ⟨[], (.q 0 (.q 3 (.q 4 (.one 1 (.one 2 (.q 5 (.q 6 (.q 7 (.q 8 (.q 9 (.q 10 (.q 11 (.q 12 .nil))))))))))))), by kernel_rfl, ?_⟩
    refine ⟨d, rfl, fun j b hjb => by obtain ⟨a, h1, h2⟩ := hs.at_ hjb; exact ⟨a, h1, .inl h2⟩, ?_⟩
    refine ⟨[2], _, Encode_ok _ hlok (logR_own 0 1 hlok rfl rfl) hch hC hn, ?_⟩
    rw [henc]
    rintro _ _ ⟨_, ⟨A3, k3, cap3, xs3, rfl, rfl, hk3, hx3, hg3⟩, rfl⟩
    refine ⟨d, hk3.symm, fun j b hjb => (BsR.own 4 rfl hk3 hx3 hg3).at_ hjb, ?_⟩
    repeat (first | (refine ⟨fun h => ?_, fun h => ?_⟩; rotate_left 1; (focus (exfalso; (first | (with_reducible (cases h; done)) | (revert h; simp; done) | (revert h; simp; omega) | (revert h; simp [*]; done)))); clear h) | (refine ⟨fun h => ?_, fun h => ?_⟩; (focus (exfalso; (first | (with_reducible (cases h; done)) | (revert h; simp; done) | (revert h; simp; omega) | (revert h; simp [*]; done)))); clear h))
    refine ⟨_, Ent.nil _, ?_⟩
    first | rfl | (show Value.bool (decide ((q.length : Int) ≤ (countC C : Nat))) = _; rw [decide_eq_true (by omega)])

end Go.Proofs.YtbgfnofjnbpdgaaDoor
