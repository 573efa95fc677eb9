/-
  Contracts: Consistent (package merkle and its reference), few, same.
-/
import Derived.Test.YtgbdfpfiolbhlaaDoorMke
namespace Go.Proofs.YtgbdfpfiolbhlaaDoor
open Go Go.RowKit
set_option linter.unusedVariables false

section
variable {old new : Str} {m n : Int} {proof : List Str}
theorem cB_neg (h : m < 0) : consistentB m n old new proof = false := by
  have : decide (0 ≤ m) = false := decide_eq_false (by omega)
  simp [consistentB, this]
theorem cB_gt (h : n < m) : consistentB m n old new proof = false := by
  have : decide (m ≤ n) = false := decide_eq_false (by omega)
  simp [consistentB, this]
theorem cB_old (h : ¬ old.length = 32) : consistentB m n old new proof = false := by simp [consistentB, h]
theorem cB_new (h : ¬ new.length = 32) : consistentB m n old new proof = false := by simp [consistentB, h]
theorem cB_proof (h : sumsB proof = false) : consistentB m n old new proof = false := by simp [consistentB, h]
theorem beq_dec (a b : Str) : (a == b) = decide (a = b) := by by_cases h : a = b <;> simp [h]
theorem cB_zero (h0 : 0 ≤ n) (h1 : old.length = 32) (h2 : new.length = 32) (h3 : sumsB proof = true) : consistentB 0 n old new proof = (decide (proof = []) && decide (old = sha []) && (decide (0 < n) || decide (new = old))) := by
  have e2 : decide ((0 : Int) ≤ n) = true := decide_eq_true h0
  have e3 : proof.isEmpty = decide (proof = []) := by cases proof <;> simp
  simp only [consistentB, e2, h1, h2, h3, if_true, beq_dec, e3]
  simp
theorem cB_up {m n : Nat} (hm : 1 ≤ m) (h : m ≤ n) (h1 : old.length = 32) (h2 : new.length = 32) (h3 : sumsB proof = true) : consistentB m n old new proof =
    ((bothR old proof.reverse m n true).2.2 && decide ((bothR old proof.reverse m n true).1 = old) && decide ((bothR old proof.reverse m n true).2.1 = new)) := by
  have e1 : decide ((0 : Int) ≤ m) = true := decide_eq_true (by omega)
  have e2 : decide ((m : Int) ≤ n) = true := decide_eq_true (by omega)
  have e4 : ¬ ((m : Int) = 0) := by omega
  simp only [consistentB, e1, e2, h1, h2, h3, if_neg e4, bothOf, Int.toNat_natCast, beq_dec]
  simp
end
theorem rootOf_nil : rootOf [] = sha [] := rootOf_zero rfl
theorem Ss.nil (R : Rd) : Ss R (.slice none 0 0) [] := ⟨none, 0, rfl, Nat.le_refl _, rfl, none, 0, rfl, fun j u h => by simp [SV] at h⟩
theorem Small.nil : Small [] := ⟨by simp, by simp⟩

set_option maxRecDepth 100000 in
set_option maxHeartbeats 2000000 in
theorem Consistent_ok (R : Rd) (hG : ShaG R) (m n : Int) (old new : Str) (proof : List Str) (v4 : Value) (hm : -9223372036854775808 ≤ m) (hn : n ≤ 9223372036854775807) (ho : old.length ≤ 1000000) (hsm : Small proof) (hs : Ss R v4 proof) :
    Fn Tryd.prog 31 [.int .i64 m, .int .i64 n, .string ⟨⟨old⟩⟩, .string ⟨⟨new⟩⟩, v4] [] R (fun v h => v = .bool (consistentB m n old new proof) ∧ h = []) := by
  have hs' := hs
  obtain ⟨A, cap, rfl, hc, hsr⟩ := hs
  refine fn_of_vc mixed tabOk Tryd.func31 rfl (by kernel_rfl) (Nat.le_of_ble_eq_true rfl) ?_
  by_cases c1 : m < 0
  · repeat (first | (refine ⟨fun h => ?_, fun h => ?_⟩; rotate_left 1; (focus (exfalso; (first | (with_reducible (cases h; done)) | (revert h; simp; done) | (revert h; simp; omega) | (revert h; simp [*]; done)))); clear h) | (refine ⟨fun h => ?_, fun h => ?_⟩; (focus (exfalso; (first | (with_reducible (cases h; done)) | (revert h; simp; done) | (revert h; simp; omega) | (revert h; simp [*]; done)))); clear h))
    refine ⟨_, Ent.refl _, ?_, rfl⟩
    rw [cB_neg c1]; rfl
  by_cases c2 : n < m
  · repeat (first | (refine ⟨fun h => ?_, fun h => ?_⟩; rotate_left 1; (focus (exfalso; (first | (with_reducible (cases h; done)) | (revert h; simp; done) | (revert h; simp; omega) | (revert h; simp [*]; done)))); clear h) | (refine ⟨fun h => ?_, fun h => ?_⟩; (focus (exfalso; (first | (with_reducible (cases h; done)) | (revert h; simp; done) | (revert h; simp; omega) | (revert h; simp [*]; done)))); clear h))
    refine ⟨_, Ent.refl _, ?_, rfl⟩
    rw [cB_gt c2]; rfl
  repeat (first | (refine ⟨fun h => ?_, fun h => ?_⟩; rotate_left 1; (focus (exfalso; (first | (with_reducible (cases h; done)) | (revert h; simp; done) | (revert h; simp; omega) | (revert h; simp [*]; done)))); clear h) | (refine ⟨fun h => ?_, fun h => ?_⟩; (focus (exfalso; (first | (with_reducible (cases h; done)) | (revert h; simp; done) | (revert h; simp; omega) | (revert h; simp [*]; done)))); clear h))
  refine ⟨[], _, isSum_ok _ _, ?_⟩
  rintro _ _ ⟨rfl, rfl⟩
  by_cases c3 : (old.length : Int) = 32
  case neg =>
    repeat (first | (refine ⟨fun h => ?_, fun h => ?_⟩; rotate_left 1; (focus (exfalso; (first | (with_reducible (cases h; done)) | (revert h; simp; done) | (revert h; simp; omega) | (revert h; simp [*]; done)))); clear h) | (refine ⟨fun h => ?_, fun h => ?_⟩; (focus (exfalso; (first | (with_reducible (cases h; done)) | (revert h; simp; done) | (revert h; simp; omega) | (revert h; simp [*]; done)))); clear h))
    refine ⟨_, Ent.refl _, ?_, rfl⟩
    rw [cB_old (by omega)]; rfl
  repeat (first | (refine ⟨fun h => ?_, fun h => ?_⟩; rotate_left 1; (focus (exfalso; (first | (with_reducible (cases h; done)) | (revert h; simp; done) | (revert h; simp; omega) | (revert h; simp [*]; done)))); clear h) | (refine ⟨fun h => ?_, fun h => ?_⟩; (focus (exfalso; (first | (with_reducible (cases h; done)) | (revert h; simp; done) | (revert h; simp; omega) | (revert h; simp [*]; done)))); clear h))
  refine ⟨[], _, isSum_ok _ _, ?_⟩
  rintro _ _ ⟨rfl, rfl⟩
  by_cases c4 : (new.length : Int) = 32
  case neg =>
    repeat (first | (refine ⟨fun h => ?_, fun h => ?_⟩; rotate_left 1; (focus (exfalso; (first | (with_reducible (cases h; done)) | (revert h; simp; done) | (revert h; simp; omega) | (revert h; simp [*]; done)))); clear h) | (refine ⟨fun h => ?_, fun h => ?_⟩; (focus (exfalso; (first | (with_reducible (cases h; done)) | (revert h; simp; done) | (revert h; simp; omega) | (revert h; simp [*]; done)))); clear h))
    refine ⟨_, Ent.refl _, ?_, rfl⟩
    rw [cB_new (by omega)]; rfl
  repeat (first | (refine ⟨fun h => ?_, fun h => ?_⟩; rotate_left 1; (focus (exfalso; (first | (with_reducible (cases h; done)) | (revert h; simp; done) | (revert h; simp; omega) | (revert h; simp [*]; done)))); clear h) | (refine ⟨fun h => ?_, fun h => ?_⟩; (focus (exfalso; (first | (with_reducible (cases h; done)) | (revert h; simp; done) | (revert h; simp; omega) | (revert h; simp [*]; done)))); clear h))
  refine ⟨[], _, areSums_ok _ proof _ (by have := hsm.1; omega) (hsr.rh _), ?_⟩
  rintro _ _ ⟨rfl, rfl⟩
  by_cases c5 : sumsB proof = true
  case neg =>
    have c5' : sumsB proof = false := by simpa using c5
    repeat (first | (refine ⟨fun h => ?_, fun h => ?_⟩; rotate_left 1; (focus (exfalso; (first | (with_reducible (cases h; done)) | (revert h; simp; done) | (revert h; simp; omega) | (revert h; simp [*]; done)))); clear h) | (refine ⟨fun h => ?_, fun h => ?_⟩; (focus (exfalso; (first | (with_reducible (cases h; done)) | (revert h; simp; done) | (revert h; simp; omega) | (revert h; simp [*]; done)))); clear h))
    refine ⟨_, Ent.refl _, ?_, rfl⟩
    rw [cB_proof c5']; rfl
  by_cases c6 : m = 0
  · subst c6
    repeat (first | (refine ⟨fun h => ?_, fun h => ?_⟩; rotate_left 1; (focus (exfalso; (first | (with_reducible (cases h; done)) | (revert h; simp; done) | (revert h; simp; omega) | (revert h; simp [*]; done)))); clear h) | (refine ⟨fun h => ?_, fun h => ?_⟩; (focus (exfalso; (first | (with_reducible (cases h; done)) | (revert h; simp; done) | (revert h; simp; omega) | (revert h; simp [*]; done)))); clear h))
    by_cases z1 : proof = []
    case neg =>
      have hl : ¬ ((proof.length : Int) = 0) := by
        intro h; exact z1 (List.eq_nil_of_length_eq_zero (by omega))
      repeat (first | (refine ⟨fun h => ?_, fun h => ?_⟩; rotate_left 1; (focus (exfalso; (first | (with_reducible (cases h; done)) | (revert h; simp; done) | (revert h; simp; omega) | (revert h; simp [*]; done)))); clear h) | (refine ⟨fun h => ?_, fun h => ?_⟩; (focus (exfalso; (first | (with_reducible (cases h; done)) | (revert h; simp; done) | (revert h; simp; omega) | (revert h; simp [*]; done)))); clear h))
      refine ⟨_, Ent.refl _, ?_, rfl⟩
      rw [cB_zero (by omega) (by omega) (by omega) c5, decide_eq_false z1]; rfl
    have hl : (proof.length : Int) = 0 := by rw [z1]; rfl
    repeat (first | (refine ⟨fun h => ?_, fun h => ?_⟩; rotate_left 1; (focus (exfalso; (first | (with_reducible (cases h; done)) | (revert h; simp; done) | (revert h; simp; omega) | (revert h; simp [*]; done)))); clear h) | (refine ⟨fun h => ?_, fun h => ?_⟩; (focus (exfalso; (first | (with_reducible (cases h; done)) | (revert h; simp; done) | (revert h; simp; omega) | (revert h; simp [*]; done)))); clear h))
    refine ⟨[], _, Root_ok _ (hG.rh _) 0 [] _ rfl Small.nil (Ss.nil _), ?_⟩
    rintro _ _ ⟨rfl, rfl⟩
    have hrn := rootOf_nil
    generalize rootOf [] = rn at hrn
    by_cases z2 : old = rn
    case neg =>
      repeat (first | (refine ⟨fun h => ?_, fun h => ?_⟩; rotate_left 1; (focus (exfalso; (first | (with_reducible (cases h; done)) | (revert h; simp; done) | (revert h; simp; omega) | (revert h; simp [*]; done)))); clear h) | (refine ⟨fun h => ?_, fun h => ?_⟩; (focus (exfalso; (first | (with_reducible (cases h; done)) | (revert h; simp; done) | (revert h; simp; omega) | (revert h; simp [*]; done)))); clear h))
      refine ⟨_, Ent.refl _, ?_, rfl⟩
      rw [cB_zero (by omega) (by omega) (by omega) c5, decide_eq_true z1, ← hrn, decide_eq_false z2]; rfl
    by_cases z3 : 0 < n
    · repeat (first | (refine ⟨fun h => ?_, fun h => ?_⟩; rotate_left 1; (focus (exfalso; (first | (with_reducible (cases h; done)) | (revert h; simp; done) | (revert h; simp; omega) | (revert h; simp [*]; done)))); clear h) | (refine ⟨fun h => ?_, fun h => ?_⟩; (focus (exfalso; (first | (with_reducible (cases h; done)) | (revert h; simp; done) | (revert h; simp; omega) | (revert h; simp [*]; done)))); clear h))
      refine ⟨_, Ent.refl _, ?_, rfl⟩
      rw [cB_zero (by omega) (by omega) (by omega) c5, decide_eq_true z1, ← hrn, decide_eq_true z2, decide_eq_true z3]; rfl
    · repeat (first | (refine ⟨fun h => ?_, fun h => ?_⟩; rotate_left 1; (focus (exfalso; (first | (with_reducible (cases h; done)) | (revert h; simp; done) | (revert h; simp; omega) | (revert h; simp [*]; done)))); clear h) | (refine ⟨fun h => ?_, fun h => ?_⟩; (focus (exfalso; (first | (with_reducible (cases h; done)) | (revert h; simp; done) | (revert h; simp; omega) | (revert h; simp [*]; done)))); clear h))
      refine ⟨_, Ent.refl _, ?_, rfl⟩
      rw [cB_zero (by omega) (by omega) (by omega) c5, decide_eq_true z1, ← hrn, decide_eq_true z2, decide_eq_false z3]; rfl
  obtain ⟨m, rfl⟩ := Int.eq_ofNat_of_zero_le (show 0 ≤ m by omega)
  obtain ⟨n, rfl⟩ := Int.eq_ofNat_of_zero_le (show 0 ≤ n by omega)
  repeat (first | (refine ⟨fun h => ?_, fun h => ?_⟩; rotate_left 1; (focus (exfalso; (first | (with_reducible (cases h; done)) | (revert h; simp; done) | (revert h; simp; omega) | (revert h; simp [*]; done)))); clear h) | (refine ⟨fun h => ?_, fun h => ?_⟩; (focus (exfalso; (first | (with_reducible (cases h; done)) | (revert h; simp; done) | (revert h; simp; omega) | (revert h; simp [*]; done)))); clear h))
  refine ⟨[], _, recompute_ok old ho proof.reverse _ (hG.rh _) m n true _ (by omega) (by omega) (by omega) (by rw [List.reverse_reverse]; exact hsm) (by rw [List.reverse_reverse]; exact hs'.rh _), ?_⟩
  rintro _ _ ⟨rfl, rfl⟩
  rw [cB_up (by omega) (by omega) (by omega) (by omega) c5]
  generalize bothR old proof.reverse m n true = b
  obtain ⟨x, y, ok⟩ := b
  cases ok
  · repeat (first | (refine ⟨fun h => ?_, fun h => ?_⟩; rotate_left 1; (focus (exfalso; (first | (with_reducible (cases h; done)) | (revert h; simp; done) | (revert h; simp; omega) | (revert h; simp [*]; done)))); clear h) | (refine ⟨fun h => ?_, fun h => ?_⟩; (focus (exfalso; (first | (with_reducible (cases h; done)) | (revert h; simp; done) | (revert h; simp; omega) | (revert h; simp [*]; done)))); clear h))
    exact ⟨_, Ent.refl _, rfl, rfl⟩
  by_cases z1 : x = old
  case neg =>
    repeat (first | (refine ⟨fun h => ?_, fun h => ?_⟩; rotate_left 1; (focus (exfalso; (first | (with_reducible (cases h; done)) | (revert h; simp; done) | (revert h; simp; omega) | (revert h; simp [*]; done)))); clear h) | (refine ⟨fun h => ?_, fun h => ?_⟩; (focus (exfalso; (first | (with_reducible (cases h; done)) | (revert h; simp; done) | (revert h; simp; omega) | (revert h; simp [*]; done)))); clear h))
    refine ⟨_, Ent.refl _, ?_, rfl⟩
    show _ = Value.bool (true && decide (x = old) && _)
    rw [decide_eq_false z1]; rfl
  · repeat (first | (refine ⟨fun h => ?_, fun h => ?_⟩; rotate_left 1; (focus (exfalso; (first | (with_reducible (cases h; done)) | (revert h; simp; done) | (revert h; simp; omega) | (revert h; simp [*]; done)))); clear h) | (refine ⟨fun h => ?_, fun h => ?_⟩; (focus (exfalso; (first | (with_reducible (cases h; done)) | (revert h; simp; done) | (revert h; simp; omega) | (revert h; simp [*]; done)))); clear h))
    refine ⟨_, Ent.refl _, ?_, rfl⟩
    show _ = Value.bool (true && decide (x = old) && _)
    rw [decide_eq_true z1]; rfl

set_option maxRecDepth 100000 in
set_option maxHeartbeats 2000000 in
theorem refConsistent_ok (R : Rd) (m n : Int) (old new : Str) (proof : List Str) (v4 : Value) (hm : -9223372036854775808 ≤ m) (hn : n ≤ 9223372036854775807) (ho : old.length ≤ 1000000) (hsm : Small proof) (hs : Ss R v4 proof) :
    Fn Tryd.prog 32 [.int .i64 m, .int .i64 n, .string ⟨⟨old⟩⟩, .string ⟨⟨new⟩⟩, v4] [] R (fun v h => v = .bool (consistentB m n old new proof) ∧ h = []) := by
  have hs' := hs
  obtain ⟨A, cap, rfl, hc, hsr⟩ := hs
  refine fn_of_vc mixed tabOk Tryd.func32 rfl (by kernel_rfl) (Nat.le_of_ble_eq_true rfl) ?_
  by_cases c1 : m < 0
  · repeat (first | (refine ⟨fun h => ?_, fun h => ?_⟩; rotate_left 1; (focus (exfalso; (first | (with_reducible (cases h; done)) | (revert h; simp; done) | (revert h; simp; omega) | (revert h; simp [*]; done)))); clear h) | (refine ⟨fun h => ?_, fun h => ?_⟩; (focus (exfalso; (first | (with_reducible (cases h; done)) | (revert h; simp; done) | (revert h; simp; omega) | (revert h; simp [*]; done)))); clear h))
    refine ⟨_, Ent.refl _, ?_, rfl⟩
    rw [cB_neg c1]; rfl
  by_cases c2 : n < m
  · repeat (first | (refine ⟨fun h => ?_, fun h => ?_⟩; rotate_left 1; (focus (exfalso; (first | (with_reducible (cases h; done)) | (revert h; simp; done) | (revert h; simp; omega) | (revert h; simp [*]; done)))); clear h) | (refine ⟨fun h => ?_, fun h => ?_⟩; (focus (exfalso; (first | (with_reducible (cases h; done)) | (revert h; simp; done) | (revert h; simp; omega) | (revert h; simp [*]; done)))); clear h))
    refine ⟨_, Ent.refl _, ?_, rfl⟩
    rw [cB_gt c2]; rfl
  repeat (first | (refine ⟨fun h => ?_, fun h => ?_⟩; rotate_left 1; (focus (exfalso; (first | (with_reducible (cases h; done)) | (revert h; simp; done) | (revert h; simp; omega) | (revert h; simp [*]; done)))); clear h) | (refine ⟨fun h => ?_, fun h => ?_⟩; (focus (exfalso; (first | (with_reducible (cases h; done)) | (revert h; simp; done) | (revert h; simp; omega) | (revert h; simp [*]; done)))); clear h))
  refine ⟨rfl, fun g => ?_⟩
  repeat (first | (refine ⟨fun h => ?_, fun h => ?_⟩; rotate_left 1; (focus (exfalso; (first | (with_reducible (cases h; done)) | (revert h; simp; done) | (revert h; simp; omega) | (revert h; simp [*]; done)))); clear h) | (refine ⟨fun h => ?_, fun h => ?_⟩; (focus (exfalso; (first | (with_reducible (cases h; done)) | (revert h; simp; done) | (revert h; simp; omega) | (revert h; simp [*]; done)))); clear h))
  refine ⟨[], _, refSums_ok _ [old, new] (.slice (some ⟨g, 0, .none⟩) 2 2) (by show 2 ≤ _; omega) (SlR.own 0 rfl rfl (.inr ⟨g, rfl⟩)), ?_⟩
  rintro _ _ ⟨rfl, rfl⟩
  by_cases c3 : (old.length : Int) = 32
  case neg =>
    have cs : sumsB [old, new] = false := by rw [sumsB_two, decide_eq_false c3]; rfl
    rw [cs]
    repeat (first | (refine ⟨fun h => ?_, fun h => ?_⟩; rotate_left 1; (focus (exfalso; (first | (with_reducible (cases h; done)) | (revert h; simp; done) | (revert h; simp; omega) | (revert h; simp [*]; done)))); clear h) | (refine ⟨fun h => ?_, fun h => ?_⟩; (focus (exfalso; (first | (with_reducible (cases h; done)) | (revert h; simp; done) | (revert h; simp; omega) | (revert h; simp [*]; done)))); clear h))
    refine ⟨_, Ent.drop [] [_], ?_, rfl⟩
    rw [cB_old (by omega)]; rfl
  by_cases c4 : (new.length : Int) = 32
  case neg =>
    have cs : sumsB [old, new] = false := by rw [sumsB_two, decide_eq_false c4, Bool.and_false]
    rw [cs]
    repeat (first | (refine ⟨fun h => ?_, fun h => ?_⟩; rotate_left 1; (focus (exfalso; (first | (with_reducible (cases h; done)) | (revert h; simp; done) | (revert h; simp; omega) | (revert h; simp [*]; done)))); clear h) | (refine ⟨fun h => ?_, fun h => ?_⟩; (focus (exfalso; (first | (with_reducible (cases h; done)) | (revert h; simp; done) | (revert h; simp; omega) | (revert h; simp [*]; done)))); clear h))
    refine ⟨_, Ent.drop [] [_], ?_, rfl⟩
    rw [cB_new (by omega)]; rfl
  have cs : sumsB [old, new] = true := by rw [sumsB_two, decide_eq_true c3, decide_eq_true c4]; rfl
  rw [cs]
  repeat (first | (refine ⟨fun h => ?_, fun h => ?_⟩; rotate_left 1; (focus (exfalso; (first | (with_reducible (cases h; done)) | (revert h; simp; done) | (revert h; simp; omega) | (revert h; simp [*]; done)))); clear h) | (refine ⟨fun h => ?_, fun h => ?_⟩; (focus (exfalso; (first | (with_reducible (cases h; done)) | (revert h; simp; done) | (revert h; simp; omega) | (revert h; simp [*]; done)))); clear h))
  refine ⟨[], _, refSums_ok _ proof _ (by have := hsm.1; omega) (hsr.rh _), ?_⟩
  rintro _ _ ⟨rfl, rfl⟩
  by_cases c5 : sumsB proof = true
  case neg =>
    have c5' : sumsB proof = false := by simpa using c5
    repeat (first | (refine ⟨fun h => ?_, fun h => ?_⟩; rotate_left 1; (focus (exfalso; (first | (with_reducible (cases h; done)) | (revert h; simp; done) | (revert h; simp; omega) | (revert h; simp [*]; done)))); clear h) | (refine ⟨fun h => ?_, fun h => ?_⟩; (focus (exfalso; (first | (with_reducible (cases h; done)) | (revert h; simp; done) | (revert h; simp; omega) | (revert h; simp [*]; done)))); clear h))
    refine ⟨_, Ent.drop [] [_], ?_, rfl⟩
    rw [cB_proof c5']; rfl
  by_cases c6 : m = 0
  · subst c6
    repeat (first | (refine ⟨fun h => ?_, fun h => ?_⟩; rotate_left 1; (focus (exfalso; (first | (with_reducible (cases h; done)) | (revert h; simp; done) | (revert h; simp; omega) | (revert h; simp [*]; done)))); clear h) | (refine ⟨fun h => ?_, fun h => ?_⟩; (focus (exfalso; (first | (with_reducible (cases h; done)) | (revert h; simp; done) | (revert h; simp; omega) | (revert h; simp [*]; done)))); clear h))
    by_cases z1 : proof = []
    case neg =>
      have hl : ¬ ((proof.length : Int) = 0) := by
        intro h; exact z1 (List.eq_nil_of_length_eq_zero (by omega))
      repeat (first | (refine ⟨fun h => ?_, fun h => ?_⟩; rotate_left 1; (focus (exfalso; (first | (with_reducible (cases h; done)) | (revert h; simp; done) | (revert h; simp; omega) | (revert h; simp [*]; done)))); clear h) | (refine ⟨fun h => ?_, fun h => ?_⟩; (focus (exfalso; (first | (with_reducible (cases h; done)) | (revert h; simp; done) | (revert h; simp; omega) | (revert h; simp [*]; done)))); clear h))
      refine ⟨_, Ent.drop [] [_], ?_, rfl⟩
      rw [cB_zero (by omega) (by omega) (by omega) c5, decide_eq_false z1]; rfl
    have hl : (proof.length : Int) = 0 := by rw [z1]; rfl
    repeat (first | (refine ⟨fun h => ?_, fun h => ?_⟩; rotate_left 1; (focus (exfalso; (first | (with_reducible (cases h; done)) | (revert h; simp; done) | (revert h; simp; omega) | (revert h; simp [*]; done)))); clear h) | (refine ⟨fun h => ?_, fun h => ?_⟩; (focus (exfalso; (first | (with_reducible (cases h; done)) | (revert h; simp; done) | (revert h; simp; omega) | (revert h; simp [*]; done)))); clear h))
    refine ⟨[], _, refRoot_ok _ 0 [] _ rfl Small.nil (Ss.nil _), ?_⟩
    rintro _ _ ⟨rfl, rfl⟩
    have hrn := rootOf_nil
    generalize rootOf [] = rn at hrn
    by_cases z2 : old = rn
    case neg =>
      repeat (first | (refine ⟨fun h => ?_, fun h => ?_⟩; rotate_left 1; (focus (exfalso; (first | (with_reducible (cases h; done)) | (revert h; simp; done) | (revert h; simp; omega) | (revert h; simp [*]; done)))); clear h) | (refine ⟨fun h => ?_, fun h => ?_⟩; (focus (exfalso; (first | (with_reducible (cases h; done)) | (revert h; simp; done) | (revert h; simp; omega) | (revert h; simp [*]; done)))); clear h))
      refine ⟨_, Ent.drop [] [_], ?_, rfl⟩
      rw [cB_zero (by omega) (by omega) (by omega) c5, decide_eq_true z1, ← hrn, decide_eq_false z2]; rfl
    by_cases z3 : 0 < n
    · repeat (first | (refine ⟨fun h => ?_, fun h => ?_⟩; rotate_left 1; (focus (exfalso; (first | (with_reducible (cases h; done)) | (revert h; simp; done) | (revert h; simp; omega) | (revert h; simp [*]; done)))); clear h) | (refine ⟨fun h => ?_, fun h => ?_⟩; (focus (exfalso; (first | (with_reducible (cases h; done)) | (revert h; simp; done) | (revert h; simp; omega) | (revert h; simp [*]; done)))); clear h))
      refine ⟨_, Ent.drop [] [_], ?_, rfl⟩
      rw [cB_zero (by omega) (by omega) (by omega) c5, decide_eq_true z1, ← hrn, decide_eq_true z2, decide_eq_true z3]; rfl
    · repeat (first | (refine ⟨fun h => ?_, fun h => ?_⟩; rotate_left 1; (focus (exfalso; (first | (with_reducible (cases h; done)) | (revert h; simp; done) | (revert h; simp; omega) | (revert h; simp [*]; done)))); clear h) | (refine ⟨fun h => ?_, fun h => ?_⟩; (focus (exfalso; (first | (with_reducible (cases h; done)) | (revert h; simp; done) | (revert h; simp; omega) | (revert h; simp [*]; done)))); clear h))
      refine ⟨_, Ent.drop [] [_], ?_, rfl⟩
      rw [cB_zero (by omega) (by omega) (by omega) c5, decide_eq_true z1, ← hrn, decide_eq_true z2, decide_eq_false z3]; rfl
  obtain ⟨m, rfl⟩ := Int.eq_ofNat_of_zero_le (show 0 ≤ m by omega)
  obtain ⟨n, rfl⟩ := Int.eq_ofNat_of_zero_le (show 0 ≤ n by omega)
  repeat (first | (refine ⟨fun h => ?_, fun h => ?_⟩; rotate_left 1; (focus (exfalso; (first | (with_reducible (cases h; done)) | (revert h; simp; done) | (revert h; simp; omega) | (revert h; simp [*]; done)))); clear h) | (refine ⟨fun h => ?_, fun h => ?_⟩; (focus (exfalso; (first | (with_reducible (cases h; done)) | (revert h; simp; done) | (revert h; simp; omega) | (revert h; simp [*]; done)))); clear h))
  refine ⟨[], _, refboth_ok old ho proof.reverse _ m n true _ (by omega) (by omega) (by omega) (by rw [List.reverse_reverse]; exact hsm) (by rw [List.reverse_reverse]; exact hs'.rh _), ?_⟩
  rintro _ _ ⟨rfl, rfl⟩
  rw [cB_up (by omega) (by omega) (by omega) (by omega) c5]
  generalize bothR old proof.reverse m n true = b
  obtain ⟨x, y, ok⟩ := b
  cases ok
  · repeat (first | (refine ⟨fun h => ?_, fun h => ?_⟩; rotate_left 1; (focus (exfalso; (first | (with_reducible (cases h; done)) | (revert h; simp; done) | (revert h; simp; omega) | (revert h; simp [*]; done)))); clear h) | (refine ⟨fun h => ?_, fun h => ?_⟩; (focus (exfalso; (first | (with_reducible (cases h; done)) | (revert h; simp; done) | (revert h; simp; omega) | (revert h; simp [*]; done)))); clear h))
    exact ⟨_, Ent.drop [] [_], rfl, rfl⟩
  by_cases z1 : x = old
  case neg =>
    repeat (first | (refine ⟨fun h => ?_, fun h => ?_⟩; rotate_left 1; (focus (exfalso; (first | (with_reducible (cases h; done)) | (revert h; simp; done) | (revert h; simp; omega) | (revert h; simp [*]; done)))); clear h) | (refine ⟨fun h => ?_, fun h => ?_⟩; (focus (exfalso; (first | (with_reducible (cases h; done)) | (revert h; simp; done) | (revert h; simp; omega) | (revert h; simp [*]; done)))); clear h))
    refine ⟨_, Ent.drop [] [_], ?_, rfl⟩
    show _ = Value.bool (true && decide (x = old) && _)
    rw [decide_eq_false z1]; rfl
  · repeat (first | (refine ⟨fun h => ?_, fun h => ?_⟩; rotate_left 1; (focus (exfalso; (first | (with_reducible (cases h; done)) | (revert h; simp; done) | (revert h; simp; omega) | (revert h; simp [*]; done)))); clear h) | (refine ⟨fun h => ?_, fun h => ?_⟩; (focus (exfalso; (first | (with_reducible (cases h; done)) | (revert h; simp; done) | (revert h; simp; omega) | (revert h; simp [*]; done)))); clear h))
    refine ⟨_, Ent.drop [] [_], ?_, rfl⟩
    show _ = Value.bool (true && decide (x = old) && _)
    rw [decide_eq_true z1]; rfl


/-! ### the law's helpers -/
def fewB (l : List Str) : Bool := (l.all fun s => decide (s.length ≤ 64)) && decide (l.length ≤ 20)
theorem fewB_small {l : List Str} (h : fewB l = true) : Small l ∧ l.length ≤ 20 ∧ ∀ s ∈ l, s.length ≤ 64 := by
  simp only [fewB, Bool.and_eq_true, List.all_eq_true, decide_eq_true_eq] at h
  exact ⟨⟨by omega, fun s hs => by have := h.1 s hs; omega⟩, h.2, h.1⟩

theorem few_ok (R : Rd) (l : List Str) (v0 : Value) (hl : l.length ≤ 9223372036854775807) (hs : SsR R v0 l) : Fn Tryd.prog 21 [v0] [] R (fun v h => v = .bool (fewB l) ∧ h = []) := by
  obtain ⟨A, cap, rfl⟩ := hs.form
  refine fn_of_vc mixed tabOk Tryd.func21 rfl (by kernel_rfl) (Nat.le_of_ble_eq_true rfl) ?_
  refine ⟨[none, none, some 2, some 3, some 4, some 5, some 6, some 7, some 8, some 9, some 10, some 11, some 12, some 13, some 14, some 15], [3], Nat, fun i => i ≤ l.length ∧ ∀ j, j < i → (l.getD j []).length ≤ 64, fun i => [.int .i64 i], fun _ => [], fun i => l.length - i, 0, ⟨Nat.zero_le _, fun j h => by omega⟩, ⟨rfl, trivial⟩, Ent.refl _, ?_⟩
  rintro i ⟨hi, hsi⟩ js
  refine ⟨fun hb => ?_, fun hb => ?_⟩
  · replace hb := of_decide_eq_true hb
    have hil : i < l.length := by omega
    clear hb
    obtain ⟨a, ha, hr⟩ := hs.one hil
    refine ⟨by omega, by omega, a, ha, _, .inl hr, ?_⟩
    refine ⟨fun hb => ?_, fun hb => ?_⟩
    · replace hb := of_decide_eq_true hb
      replace hb : (64 : Int) < ((l.getD i []).length : Int) := hb
      refine ⟨_, Ent.refl _, ?_, rfl⟩
      have : fewB l = false := by
        have hm : l.getD i [] ∈ l := by rw [List.getD_eq_getElem?_getD, List.getElem?_eq_getElem hil]; exact List.getElem_mem _
        have : (l.all fun s => decide (s.length ≤ 64)) = false := by
          rw [List.all_eq_false]
          exact ⟨_, hm, by simp only [decide_eq_true_eq]; omega⟩
        simp only [fewB, this, Bool.false_and]
      rw [this]; rfl
    · replace hb := of_decide_eq_false hb
      replace hb : ¬ (64 : Int) < ((l.getD i []).length : Int) := hb
      (intro z hz; obtain rfl : z = ((i + 1 : Nat) : Int) := (by first | (rw [IntKind.wrap_i64] at hz; omega) | (rw [IntKind.wrap_u64] at hz; omega) | omega); clear hz)
      refine ⟨rfl, i + 1, ⟨hil, fun j hj => ?_⟩, by show l.length - (i + 1) < l.length - i; omega, ⟨rfl, trivial⟩, Ent.refl _, rfl⟩
      by_cases h : j = i
      · subst h; omega
      · exact hsi j (by omega)
  · replace hb := of_decide_eq_false hb
    obtain rfl : i = l.length := by omega
    refine ⟨_, Ent.refl _, ?_, rfl⟩
    have hall : (l.all fun s => decide (s.length ≤ 64)) = true := by
      rw [List.all_eq_true]
      intro s hs
      obtain ⟨j, hj, rfl⟩ := List.getElem_of_mem hs
      have := hsi j hj
      rw [List.getD_eq_getElem?_getD, List.getElem?_eq_getElem hj] at this
      simpa using this
    have e : fewB l = decide ((l.length : Int) ≤ 20) := by
      rw [fewB, hall, Bool.true_and]
      exact decide_eq_decide.2 (by omega)
    rw [e]; rfl

theorem same_ok (R : Rd) (a b : List Str) (v0 v1 : Value) (hl : a.length ≤ 9223372036854775807) (hs : SsR R v0 a) (ht : SsR R v1 b) : Fn Tryd.prog 26 [v0, v1] [] R (fun v h => v = .bool (decide (a = b)) ∧ h = []) := by
  obtain ⟨A, cap, rfl⟩ := hs.form
  obtain ⟨B, cap2, rfl⟩ := ht.form
  refine fn_of_vc mixed tabOk Tryd.func26 rfl (by kernel_rfl) (Nat.le_of_ble_eq_true rfl) ?_
  refine ⟨fun hb => ?_, fun hb => ?_⟩
  · replace hb := of_decide_eq_false (Bool.not_eq_true' _ ▸ hb)
    refine ⟨_, Ent.refl _, ?_, rfl⟩
    rw [decide_eq_false (by intro h; subst h; exact hb rfl)]; rfl
  replace hb := of_decide_eq_true (Bool.not_eq_false' _ ▸ hb)
  have hab : a.length = b.length := by omega
  refine ⟨[none, none, none, none, some 4, some 5, none, none, none, none, none, none, none, some 13, some 14, some 15, some 16, some 17, some 18, some 19, some 20, some 21, some 22, some 23, some 24, some 25], [13], Nat, fun i => i ≤ a.length ∧ a.take i = b.take i, fun i => [.int .i64 i], fun _ => [], fun i => a.length - i, 0, ⟨Nat.zero_le _, rfl⟩, ⟨rfl, trivial⟩, Ent.refl _, ?_⟩
  rintro i ⟨hi, hsi⟩ js
  refine ⟨fun hb => ?_, fun hb => ?_⟩
  · replace hb := of_decide_eq_true hb
    have hil : i < a.length := by omega
    clear hb
    obtain ⟨x, hx, hr⟩ := hs.one hil
    obtain ⟨y, hy, hr2⟩ := ht.one (i := i) (by omega)
    refine ⟨[], lexT 0 9, by kernel_rfl, ?_⟩
    refine ⟨by omega, by omega, x, hx, _, .inl hr, ?_⟩
    refine ⟨by omega, by omega, y, hy, _, .inl hr2, ?_⟩
    have ea : a[i]? = some (a.getD i []) := by rw [List.getD_eq_getElem?_getD, List.getElem?_eq_getElem hil]; rfl
    have eb : b[i]? = some (b.getD i []) := by rw [List.getD_eq_getElem?_getD, List.getElem?_eq_getElem (by omega)]; rfl
    refine ⟨fun hb => ?_, fun hb => ?_⟩
    · replace hb := of_decide_eq_false (Bool.not_eq_true' _ ▸ hb)
      replace hb : ¬ a.getD i [] = b.getD i [] := hb
      refine ⟨_, Ent.refl _, ?_, rfl⟩
      rw [decide_eq_false (by intro h; subst h; exact hb rfl)]; rfl
    · replace hb := of_decide_eq_true (Bool.not_eq_false' _ ▸ hb)
      replace hb : a.getD i [] = b.getD i [] := hb
      (intro z hz; obtain rfl : z = ((i + 1 : Nat) : Int) := (by first | (rw [IntKind.wrap_i64] at hz; omega) | (rw [IntKind.wrap_u64] at hz; omega) | omega); clear hz)
      exact ⟨rfl, i + 1, ⟨hil, take_succ_eq hsi ea (by rw [hb]; exact eb)⟩, by show a.length - (i + 1) < a.length - i; omega, ⟨rfl, trivial⟩, Ent.refl _, rfl⟩
  · replace hb := of_decide_eq_false hb
    obtain rfl : i = a.length := by omega
    refine ⟨_, Ent.refl _, ?_, rfl⟩
    rw [decide_eq_true (eq_of_take hab hsi)]; rfl

end Go.Proofs.YtgbdfpfiolbhlaaDoor
