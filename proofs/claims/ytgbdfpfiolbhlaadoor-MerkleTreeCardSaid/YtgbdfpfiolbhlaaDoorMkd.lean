/-
  Contracts: Verify, paths (package merkle and its reference).
-/
import Derived.Test.YtgbdfpfiolbhlaaDoorMkc
namespace Go.Proofs.YtgbdfpfiolbhlaaDoor
open Go Go.RowKit
set_option linter.unusedVariables false

theorem verifyB_neg {leaf root : Str} {i n : Int} {path : List Str} (h : i < 0) : verifyB leaf i n path root = false := by
  have : decide (0 ≤ i) = false := decide_eq_false (by omega)
  simp [verifyB, this]
theorem verifyB_ge {leaf root : Str} {i n : Int} {path : List Str} (h : n ≤ i) : verifyB leaf i n path root = false := by
  have : decide (i < n) = false := decide_eq_false (by omega)
  simp [verifyB, this]
theorem verifyB_leaf {leaf root : Str} {i n : Int} {path : List Str} (h : ¬ leaf.length = 32) : verifyB leaf i n path root = false := by simp [verifyB, h]
theorem verifyB_root {leaf root : Str} {i n : Int} {path : List Str} (h : ¬ root.length = 32) : verifyB leaf i n path root = false := by simp [verifyB, h]
theorem verifyB_path {leaf root : Str} {i n : Int} {path : List Str} (h : sumsB path = false) : verifyB leaf i n path root = false := by simp [verifyB, h]
theorem verifyB_up {leaf root : Str} {i n : Nat} {path : List Str} (h : i < n) (h1 : leaf.length = 32) (h2 : root.length = 32) (h3 : sumsB path = true) :
    verifyB leaf i n path root = ((upR leaf path.reverse i n).2 && decide ((upR leaf path.reverse i n).1 = root)) := by
  have e1 : decide ((0 : Int) ≤ i) = true := decide_eq_true (by omega)
  have e2 : decide ((i : Int) < n) = true := decide_eq_true (by omega)
  have e3 : ((upR leaf path.reverse i n).1 == root) = decide ((upR leaf path.reverse i n).1 = root) := by
    by_cases h : (upR leaf path.reverse i n).1 = root <;> simp [h]
  simp only [verifyB, e1, e2, h1, h2, h3, upOf, Int.toNat_natCast, e3]
  simp

set_option maxRecDepth 100000 in
set_option maxHeartbeats 1000000 in
theorem Verify_ok (R : Rd) (hG : ShaG R) (leaf root : Str) (i n : Int) (path : List Str) (v3 : Value) (hi : -9223372036854775808 ≤ i) (hn : n ≤ 9223372036854775807) (hleaf : leaf.length ≤ 1000000) (hsm : Small path) (hs : Ss R v3 path) :
    Fn Tryd.prog 27 [.string ⟨⟨leaf⟩⟩, .int .i64 i, .int .i64 n, v3, .string ⟨⟨root⟩⟩] [] R (fun v h => v = .bool (verifyB leaf i n path root) ∧ h = []) := by
  have hs' := hs
  obtain ⟨A, cap, rfl, hc, hsr⟩ := hs
  refine fn_of_vc mixed tabOk Tryd.func27 rfl (by kernel_rfl) (Nat.le_of_ble_eq_true rfl) ?_
  by_cases c1 : i < 0
  · repeat (first | (refine ⟨fun h => ?_, fun h => ?_⟩; rotate_left 1; (focus (exfalso; (first | (with_reducible (cases h; done)) | (revert h; simp; done) | (revert h; simp; omega) | (revert h; simp [*]; done)))); clear h) | (refine ⟨fun h => ?_, fun h => ?_⟩; (focus (exfalso; (first | (with_reducible (cases h; done)) | (revert h; simp; done) | (revert h; simp; omega) | (revert h; simp [*]; done)))); clear h))
    refine ⟨_, Ent.refl _, ?_, rfl⟩
    rw [verifyB_neg c1]; rfl
  by_cases c2 : n ≤ i
  · repeat (first | (refine ⟨fun h => ?_, fun h => ?_⟩; rotate_left 1; (focus (exfalso; (first | (with_reducible (cases h; done)) | (revert h; simp; done) | (revert h; simp; omega) | (revert h; simp [*]; done)))); clear h) | (refine ⟨fun h => ?_, fun h => ?_⟩; (focus (exfalso; (first | (with_reducible (cases h; done)) | (revert h; simp; done) | (revert h; simp; omega) | (revert h; simp [*]; done)))); clear h))
    refine ⟨_, Ent.refl _, ?_, rfl⟩
    rw [verifyB_ge c2]; rfl
  repeat (first | (refine ⟨fun h => ?_, fun h => ?_⟩; rotate_left 1; (focus (exfalso; (first | (with_reducible (cases h; done)) | (revert h; simp; done) | (revert h; simp; omega) | (revert h; simp [*]; done)))); clear h) | (refine ⟨fun h => ?_, fun h => ?_⟩; (focus (exfalso; (first | (with_reducible (cases h; done)) | (revert h; simp; done) | (revert h; simp; omega) | (revert h; simp [*]; done)))); clear h))
  refine ⟨[], _, isSum_ok _ _, ?_⟩
  rintro _ _ ⟨rfl, rfl⟩
  by_cases c3 : (leaf.length : Int) = 32
  case neg =>
    repeat (first | (refine ⟨fun h => ?_, fun h => ?_⟩; rotate_left 1; (focus (exfalso; (first | (with_reducible (cases h; done)) | (revert h; simp; done) | (revert h; simp; omega) | (revert h; simp [*]; done)))); clear h) | (refine ⟨fun h => ?_, fun h => ?_⟩; (focus (exfalso; (first | (with_reducible (cases h; done)) | (revert h; simp; done) | (revert h; simp; omega) | (revert h; simp [*]; done)))); clear h))
    refine ⟨_, Ent.refl _, ?_, rfl⟩
    rw [verifyB_leaf (by omega)]; rfl
  repeat (first | (refine ⟨fun h => ?_, fun h => ?_⟩; rotate_left 1; (focus (exfalso; (first | (with_reducible (cases h; done)) | (revert h; simp; done) | (revert h; simp; omega) | (revert h; simp [*]; done)))); clear h) | (refine ⟨fun h => ?_, fun h => ?_⟩; (focus (exfalso; (first | (with_reducible (cases h; done)) | (revert h; simp; done) | (revert h; simp; omega) | (revert h; simp [*]; done)))); clear h))
  refine ⟨[], _, isSum_ok _ _, ?_⟩
  rintro _ _ ⟨rfl, rfl⟩
  by_cases c4 : (root.length : Int) = 32
  case neg =>
    repeat (first | (refine ⟨fun h => ?_, fun h => ?_⟩; rotate_left 1; (focus (exfalso; (first | (with_reducible (cases h; done)) | (revert h; simp; done) | (revert h; simp; omega) | (revert h; simp [*]; done)))); clear h) | (refine ⟨fun h => ?_, fun h => ?_⟩; (focus (exfalso; (first | (with_reducible (cases h; done)) | (revert h; simp; done) | (revert h; simp; omega) | (revert h; simp [*]; done)))); clear h))
    refine ⟨_, Ent.refl _, ?_, rfl⟩
    rw [verifyB_root (by omega)]; rfl
  repeat (first | (refine ⟨fun h => ?_, fun h => ?_⟩; rotate_left 1; (focus (exfalso; (first | (with_reducible (cases h; done)) | (revert h; simp; done) | (revert h; simp; omega) | (revert h; simp [*]; done)))); clear h) | (refine ⟨fun h => ?_, fun h => ?_⟩; (focus (exfalso; (first | (with_reducible (cases h; done)) | (revert h; simp; done) | (revert h; simp; omega) | (revert h; simp [*]; done)))); clear h))
  refine ⟨[], _, areSums_ok _ path _ (by have := hsm.1; omega) (hsr.rh _), ?_⟩
  rintro _ _ ⟨rfl, rfl⟩
  by_cases c5 : sumsB path = true
  case neg =>
    have c5' : sumsB path = false := by simpa using c5
    repeat (first | (refine ⟨fun h => ?_, fun h => ?_⟩; rotate_left 1; (focus (exfalso; (first | (with_reducible (cases h; done)) | (revert h; simp; done) | (revert h; simp; omega) | (revert h; simp [*]; done)))); clear h) | (refine ⟨fun h => ?_, fun h => ?_⟩; (focus (exfalso; (first | (with_reducible (cases h; done)) | (revert h; simp; done) | (revert h; simp; omega) | (revert h; simp [*]; done)))); clear h))
    refine ⟨_, Ent.refl _, ?_, rfl⟩
    rw [verifyB_path c5']; rfl
  repeat (first | (refine ⟨fun h => ?_, fun h => ?_⟩; rotate_left 1; (focus (exfalso; (first | (with_reducible (cases h; done)) | (revert h; simp; done) | (revert h; simp; omega) | (revert h; simp [*]; done)))); clear h) | (refine ⟨fun h => ?_, fun h => ?_⟩; (focus (exfalso; (first | (with_reducible (cases h; done)) | (revert h; simp; done) | (revert h; simp; omega) | (revert h; simp [*]; done)))); clear h))
  obtain ⟨i, rfl⟩ := Int.eq_ofNat_of_zero_le (show 0 ≤ i by omega)
  obtain ⟨n, rfl⟩ := Int.eq_ofNat_of_zero_le (show 0 ≤ n by omega)
  refine ⟨[], _, climb_ok leaf hleaf path.reverse _ (hG.rh _) i n _ (by omega) (by omega) (by rw [List.reverse_reverse]; exact hsm) (by rw [List.reverse_reverse]; exact hs'.rh _), ?_⟩
  rintro _ _ ⟨rfl, rfl⟩
  cases c6 : (upR leaf path.reverse i n).2
  · repeat (first | (refine ⟨fun h => ?_, fun h => ?_⟩; rotate_left 1; (focus (exfalso; (first | (with_reducible (cases h; done)) | (revert h; simp; done) | (revert h; simp; omega) | (revert h; simp [*]; done)))); clear h) | (refine ⟨fun h => ?_, fun h => ?_⟩; (focus (exfalso; (first | (with_reducible (cases h; done)) | (revert h; simp; done) | (revert h; simp; omega) | (revert h; simp [*]; done)))); clear h))
    refine ⟨_, Ent.refl _, ?_, rfl⟩
    rw [verifyB_up (by omega) (by omega) (by omega) c5, c6]; rfl
  · repeat (first | (refine ⟨fun h => ?_, fun h => ?_⟩; rotate_left 1; (focus (exfalso; (first | (with_reducible (cases h; done)) | (revert h; simp; done) | (revert h; simp; omega) | (revert h; simp [*]; done)))); clear h) | (refine ⟨fun h => ?_, fun h => ?_⟩; (focus (exfalso; (first | (with_reducible (cases h; done)) | (revert h; simp; done) | (revert h; simp; omega) | (revert h; simp [*]; done)))); clear h))
    refine ⟨_, Ent.refl _, ?_, rfl⟩
    rw [verifyB_up (by omega) (by omega) (by omega) c5, c6, Bool.true_and]; rfl

theorem sumsB_two {a b : Str} : sumsB [a, b] = (decide ((a.length : Int) = 32) && decide ((b.length : Int) = 32)) := by
  have e : ∀ s : Str, (s.length == 32) = decide ((s.length : Int) = 32) := fun s => by
    by_cases h : s.length = 32
    · simp [h]
    · have : ¬ (s.length : Int) = 32 := by omega
      simp [h, this]
  simp only [sumsB, List.all_cons, List.all_nil, Bool.and_true, e]

set_option maxRecDepth 100000 in
set_option maxHeartbeats 1000000 in
theorem refVerify_ok (R : Rd) (leaf root : Str) (i n : Int) (path : List Str) (v3 : Value) (hi : -9223372036854775808 ≤ i) (hn : n ≤ 9223372036854775807) (hleaf : leaf.length ≤ 1000000) (hsm : Small path) (hs : Ss R v3 path) :
    Fn Tryd.prog 28 [.string ⟨⟨leaf⟩⟩, .int .i64 i, .int .i64 n, v3, .string ⟨⟨root⟩⟩] [] R (fun v h => v = .bool (verifyB leaf i n path root) ∧ h = []) := by
  have hs' := hs
  obtain ⟨A, cap, rfl, hc, hsr⟩ := hs
  refine fn_of_vc mixed tabOk Tryd.func28 rfl (by kernel_rfl) (Nat.le_of_ble_eq_true rfl) ?_
  by_cases c1 : i < 0
  · repeat (first | (refine ⟨fun h => ?_, fun h => ?_⟩; rotate_left 1; (focus (exfalso; (first | (with_reducible (cases h; done)) | (revert h; simp; done) | (revert h; simp; omega) | (revert h; simp [*]; done)))); clear h) | (refine ⟨fun h => ?_, fun h => ?_⟩; (focus (exfalso; (first | (with_reducible (cases h; done)) | (revert h; simp; done) | (revert h; simp; omega) | (revert h; simp [*]; done)))); clear h))
    refine ⟨_, Ent.refl _, ?_, rfl⟩
    rw [verifyB_neg c1]; rfl
  by_cases c2 : n ≤ i
  · repeat (first | (refine ⟨fun h => ?_, fun h => ?_⟩; rotate_left 1; (focus (exfalso; (first | (with_reducible (cases h; done)) | (revert h; simp; done) | (revert h; simp; omega) | (revert h; simp [*]; done)))); clear h) | (refine ⟨fun h => ?_, fun h => ?_⟩; (focus (exfalso; (first | (with_reducible (cases h; done)) | (revert h; simp; done) | (revert h; simp; omega) | (revert h; simp [*]; done)))); clear h))
    refine ⟨_, Ent.refl _, ?_, rfl⟩
    rw [verifyB_ge c2]; rfl
  repeat (first | (refine ⟨fun h => ?_, fun h => ?_⟩; rotate_left 1; (focus (exfalso; (first | (with_reducible (cases h; done)) | (revert h; simp; done) | (revert h; simp; omega) | (revert h; simp [*]; done)))); clear h) | (refine ⟨fun h => ?_, fun h => ?_⟩; (focus (exfalso; (first | (with_reducible (cases h; done)) | (revert h; simp; done) | (revert h; simp; omega) | (revert h; simp [*]; done)))); clear h))
  refine ⟨rfl, fun g => ?_⟩
  repeat (first | (refine ⟨fun h => ?_, fun h => ?_⟩; rotate_left 1; (focus (exfalso; (first | (with_reducible (cases h; done)) | (revert h; simp; done) | (revert h; simp; omega) | (revert h; simp [*]; done)))); clear h) | (refine ⟨fun h => ?_, fun h => ?_⟩; (focus (exfalso; (first | (with_reducible (cases h; done)) | (revert h; simp; done) | (revert h; simp; omega) | (revert h; simp [*]; done)))); clear h))
  refine ⟨[], _, refSums_ok _ [leaf, root] (.slice (some ⟨g, 0, .none⟩) 2 2) (by show 2 ≤ _; omega) (SlR.own 0 rfl rfl (.inr ⟨g, rfl⟩)), ?_⟩
  rintro _ _ ⟨rfl, rfl⟩
  by_cases c3 : (leaf.length : Int) = 32
  case neg =>
    have cs : sumsB [leaf, root] = false := by rw [sumsB_two, decide_eq_false c3]; rfl
    rw [cs]
    repeat (first | (refine ⟨fun h => ?_, fun h => ?_⟩; rotate_left 1; (focus (exfalso; (first | (with_reducible (cases h; done)) | (revert h; simp; done) | (revert h; simp; omega) | (revert h; simp [*]; done)))); clear h) | (refine ⟨fun h => ?_, fun h => ?_⟩; (focus (exfalso; (first | (with_reducible (cases h; done)) | (revert h; simp; done) | (revert h; simp; omega) | (revert h; simp [*]; done)))); clear h))
    refine ⟨_, Ent.drop [] [_], ?_, rfl⟩
    rw [verifyB_leaf (by omega)]; rfl
  by_cases c4 : (root.length : Int) = 32
  case neg =>
    have cs : sumsB [leaf, root] = false := by rw [sumsB_two, decide_eq_false c4, Bool.and_false]
    rw [cs]
    repeat (first | (refine ⟨fun h => ?_, fun h => ?_⟩; rotate_left 1; (focus (exfalso; (first | (with_reducible (cases h; done)) | (revert h; simp; done) | (revert h; simp; omega) | (revert h; simp [*]; done)))); clear h) | (refine ⟨fun h => ?_, fun h => ?_⟩; (focus (exfalso; (first | (with_reducible (cases h; done)) | (revert h; simp; done) | (revert h; simp; omega) | (revert h; simp [*]; done)))); clear h))
    refine ⟨_, Ent.drop [] [_], ?_, rfl⟩
    rw [verifyB_root (by omega)]; rfl
  have cs : sumsB [leaf, root] = true := by rw [sumsB_two, decide_eq_true c3, decide_eq_true c4]; rfl
  rw [cs]
  repeat (first | (refine ⟨fun h => ?_, fun h => ?_⟩; rotate_left 1; (focus (exfalso; (first | (with_reducible (cases h; done)) | (revert h; simp; done) | (revert h; simp; omega) | (revert h; simp [*]; done)))); clear h) | (refine ⟨fun h => ?_, fun h => ?_⟩; (focus (exfalso; (first | (with_reducible (cases h; done)) | (revert h; simp; done) | (revert h; simp; omega) | (revert h; simp [*]; done)))); clear h))
  refine ⟨[], _, refSums_ok _ path _ (by have := hsm.1; omega) (hsr.rh _), ?_⟩
  rintro _ _ ⟨rfl, rfl⟩
  by_cases c5 : sumsB path = true
  case neg =>
    have c5' : sumsB path = false := by simpa using c5
    repeat (first | (refine ⟨fun h => ?_, fun h => ?_⟩; rotate_left 1; (focus (exfalso; (first | (with_reducible (cases h; done)) | (revert h; simp; done) | (revert h; simp; omega) | (revert h; simp [*]; done)))); clear h) | (refine ⟨fun h => ?_, fun h => ?_⟩; (focus (exfalso; (first | (with_reducible (cases h; done)) | (revert h; simp; done) | (revert h; simp; omega) | (revert h; simp [*]; done)))); clear h))
    refine ⟨_, Ent.drop [] [_], ?_, rfl⟩
    rw [verifyB_path c5']; rfl
  repeat (first | (refine ⟨fun h => ?_, fun h => ?_⟩; rotate_left 1; (focus (exfalso; (first | (with_reducible (cases h; done)) | (revert h; simp; done) | (revert h; simp; omega) | (revert h; simp [*]; done)))); clear h) | (refine ⟨fun h => ?_, fun h => ?_⟩; (focus (exfalso; (first | (with_reducible (cases h; done)) | (revert h; simp; done) | (revert h; simp; omega) | (revert h; simp [*]; done)))); clear h))
  obtain ⟨i, rfl⟩ := Int.eq_ofNat_of_zero_le (show 0 ≤ i by omega)
  obtain ⟨n, rfl⟩ := Int.eq_ofNat_of_zero_le (show 0 ≤ n by omega)
  refine ⟨[], _, refup_ok leaf hleaf path.reverse _ i n _ (by omega) (by omega) (by rw [List.reverse_reverse]; exact hsm) (by rw [List.reverse_reverse]; exact hs'.rh _), ?_⟩
  rintro _ _ ⟨rfl, rfl⟩
  cases c6 : (upR leaf path.reverse i n).2
  · repeat (first | (refine ⟨fun h => ?_, fun h => ?_⟩; rotate_left 1; (focus (exfalso; (first | (with_reducible (cases h; done)) | (revert h; simp; done) | (revert h; simp; omega) | (revert h; simp [*]; done)))); clear h) | (refine ⟨fun h => ?_, fun h => ?_⟩; (focus (exfalso; (first | (with_reducible (cases h; done)) | (revert h; simp; done) | (revert h; simp; omega) | (revert h; simp [*]; done)))); clear h))
    refine ⟨_, Ent.drop [] [_], ?_, rfl⟩
    rw [verifyB_up (by omega) (by omega) (by omega) c5, c6]; rfl
  · repeat (first | (refine ⟨fun h => ?_, fun h => ?_⟩; rotate_left 1; (focus (exfalso; (first | (with_reducible (cases h; done)) | (revert h; simp; done) | (revert h; simp; omega) | (revert h; simp [*]; done)))); clear h) | (refine ⟨fun h => ?_, fun h => ?_⟩; (focus (exfalso; (first | (with_reducible (cases h; done)) | (revert h; simp; done) | (revert h; simp; omega) | (revert h; simp [*]; done)))); clear h))
    refine ⟨_, Ent.drop [] [_], ?_, rfl⟩
    rw [verifyB_up (by omega) (by omega) (by omega) c5, c6, Bool.true_and]; rfl

/-- Texts of the call's own, in a new slice. -/
def OwnT (v : Value) (l : List Str) (h : Hp) : Prop :=
  ∃ A k cap xs, v = .slice A k cap ∧ h = [.row A k cap 9 1 xs (0, 0)] ∧ k = l.length ∧ xs = SV l ∧ grow k A
/-- What a function value answers. -/
def pathG (F : Nat → Nat → Str) (start n i : Nat) : List Str :=
  if h : n ≤ 1 then [] else
    if i < splitN n then F (start + splitN n) (n - splitN n) :: pathG F start (splitN n) i
    else F start (splitN n) :: pathG F (start + splitN n) (n - splitN n) (i - splitN n)
termination_by n
decreasing_by
  · exact splitN_lt (by omega)
  · have := splitN_pos n; omega
theorem pathG_one {F : Nat → Nat → Str} {start n i : Nat} (h : n ≤ 1) : pathG F start n i = [] := by rw [pathG, dif_pos h]
theorem pathG_lo {F : Nat → Nat → Str} {start n i : Nat} (h : 2 ≤ n) (hi : i < splitN n) : pathG F start n i = F (start + splitN n) (n - splitN n) :: pathG F start (splitN n) i := by
  rw [pathG, dif_neg (by omega), if_pos hi]
theorem pathG_hi {F : Nat → Nat → Str} {start n i : Nat} (h : 2 ≤ n) (hi : ¬ i < splitN n) : pathG F start n i = F start (splitN n) :: pathG F (start + splitN n) (n - splitN n) (i - splitN n) := by
  rw [pathG, dif_neg (by omega), if_neg hi]
/-- The roots of parts of a list. -/
theorem pathG_root (l : List Str) : ∀ (n start i : Nat), start + n ≤ l.length → pathG (fun s m => rootOf ((l.drop s).take m)) start n i = pathR ((l.drop start).take n) i := by
  intro n
  induction n using Nat.strongRecOn with
  | _ n ih =>
  intro start i hle
  have hlen : ((l.drop start).take n).length = n := by rw [List.length_take, List.length_drop]; omega
  by_cases h : n ≤ 1
  · rw [pathG_one h, pathR_one (by omega)]
  · have h2 : 2 ≤ n := by omega
    have hk := splitN_lt h2
    have hk0 := splitN_pos n
    have e1 : ((l.drop start).take n).take (splitN n) = (l.drop start).take (splitN n) := by rw [List.take_take, Nat.min_eq_left (by omega)]
    have e2 : ((l.drop start).take n).drop (splitN n) = (l.drop (start + splitN n)).take (n - splitN n) := by rw [List.drop_take, List.drop_drop]
    by_cases hi : i < splitN n
    · rw [pathG_lo h2 hi, pathR_lo (by omega) (by rw [hlen]; exact hi), hlen, e1, e2, ih _ hk _ _ (by omega)]
    · rw [pathG_hi h2 hi, pathR_hi (by omega) (by rw [hlen]; exact hi), hlen, e1, e2, ih _ (by omega) _ _ (by omega)]

theorem SV_snoc (l : List Str) (s : Str) : SV l ++ [.string ⟨⟨s⟩⟩] = SV (l ++ [s]) := by simp [SV]
theorem pathG_le (F : Nat → Nat → Str) : ∀ (n start i : Nat), (pathG F start n i).length ≤ n := by
  intro n
  induction n using Nat.strongRecOn with
  | _ n ih =>
  intro start i
  by_cases h : n ≤ 1
  · rw [pathG_one h]; simp
  · have h2 : 2 ≤ n := by omega
    have hk := splitN_lt h2
    have hk0 := splitN_pos n
    by_cases hi : i < splitN n
    · rw [pathG_lo h2 hi, List.length_cons]; have := ih _ hk start i; omega
    · rw [pathG_hi h2 hi, List.length_cons]; have := ih (n - splitN n) (by omega) (start + splitN n) (i - splitN n); omega

set_option maxRecDepth 100000 in
set_option maxHeartbeats 1000000 in
theorem pathC_ok (fr : FuncId) (c : Value) (F : Nat → Nat → Str) (N : Nat) (hN : N ≤ 1000000000) : ∀ (n : Nat) (R : Rd) (start i : Nat),
    (∀ R' : Rd, (∀ a v, R a v → R' a v) → ∀ s m, s + m ≤ N → Fn Tryd.prog fr [.int .i64 s, .int .i64 m, c] [] R' (fun v h => v = .string ⟨⟨F s m⟩⟩ ∧ h = [])) →
    i < n → start + n ≤ N →
    Fn Tryd.prog 61 [.func (.func fr) #[] #[c], .int .i64 start, .int .i64 i, .int .i64 n] [] R (fun v h => OwnT v (pathG F start n i).reverse h) := by
  have hML := maxLen_eq
  intro n
  induction n using Nat.strongRecOn with
  | _ n ih =>
  intro R start i hF hi hle
  refine fn_of_vc mixed tabOk Tryd.func61 rfl (by kernel_rfl) (Nat.le_of_ble_eq_true rfl) ?_
  refine ⟨fun hb => ?_, fun hb => ?_⟩
  · replace hb := of_decide_eq_true hb
    obtain rfl : n = 1 := by omega
    refine ⟨_, Ent.nilrow [] 9 1, .none, 0, 0, [], rfl, rfl, ?_, ?_, .inl rfl⟩
    · rw [pathG_one (Nat.le_refl _)]; rfl
    · rw [pathG_one (Nat.le_refl _)]; rfl
  replace hb := of_decide_eq_false hb
  have h2 : 2 ≤ n := by omega
  clear hb
  have hk := splitN_lt h2
  have hk0 := splitN_pos n
  refine ⟨[], _, split_ok _ n h2 (by omega), ?_⟩
  rintro _ _ ⟨rfl, rfl⟩
  refine ⟨fun hb => ?_, fun hb => ?_⟩
  · replace hb := of_decide_eq_true hb
    have hik : i < splitN n := by omega
    clear hb
    refine ⟨[], _, ih (splitN n) hk _ start i (fun R' h => hF R' fun a v hv => h a v (.inl hv)) hik (by omega), ?_⟩
    rintro _ _ ⟨A, k, cap, xs, rfl, rfl, hkl, hxs, hg⟩
    have hpl := pathG_le F (splitN n) start i
    rw [List.length_reverse] at hkl
    (intro z hz; obtain rfl : z = ((start + splitN n : Nat) : Int) := (by first | (rw [IntKind.wrap_i64] at hz; omega) | (rw [IntKind.wrap_u64] at hz; omega) | omega); clear hz)
    (intro z hz; obtain rfl : z = ((n - splitN n : Nat) : Int) := (by first | (rw [IntKind.wrap_i64] at hz; omega) | (rw [IntKind.wrap_u64] at hz; omega) | omega); clear hz)
    refine ⟨[], _, hF _ (fun a v hv => .inl hv) (start + splitN n) (n - splitN n) (by omega), ?_⟩
    rintro _ _ ⟨rfl, rfl⟩
    refine ⟨rfl, fun g => ?_⟩
    refine ⟨[.string ⟨⟨F (start + splitN n) (n - splitN n)⟩⟩], rfl, rdRow 1 rfl, rfl, by show (_ + _) * 16 ≤ _; omega, by omega, .inr ⟨0, rfl, rfl, rfl, rfl, rfl, rfl, fun A' cap' hg' => ?_⟩⟩
    refine ⟨_, Ent.drop [_] [_], A', _, cap', _, rfl, rfl, ?_, ?_, hg'⟩
    · rw [pathG_lo h2 hik, List.length_reverse, List.length_cons]; omega
    · rw [pathG_lo h2 hik, List.reverse_cons, ← SV_snoc, hxs]
  · replace hb := of_decide_eq_false hb
    have hik : ¬ i < splitN n := by omega
    clear hb
    (intro z hz; obtain rfl : z = ((start + splitN n : Nat) : Int) := (by first | (rw [IntKind.wrap_i64] at hz; omega) | (rw [IntKind.wrap_u64] at hz; omega) | omega); clear hz)
    (intro z hz; obtain rfl : z = ((i - splitN n : Nat) : Int) := (by first | (rw [IntKind.wrap_i64] at hz; omega) | (rw [IntKind.wrap_u64] at hz; omega) | omega); clear hz)
    (intro z hz; obtain rfl : z = ((n - splitN n : Nat) : Int) := (by first | (rw [IntKind.wrap_i64] at hz; omega) | (rw [IntKind.wrap_u64] at hz; omega) | omega); clear hz)
    refine ⟨[], _, ih (n - splitN n) (by omega) _ (start + splitN n) (i - splitN n) (fun R' h => hF R' fun a v hv => h a v (.inl hv)) (by omega) (by omega), ?_⟩
    rintro _ _ ⟨A, k, cap, xs, rfl, rfl, hkl, hxs, hg⟩
    have hpl := pathG_le F (n - splitN n) (start + splitN n) (i - splitN n)
    rw [List.length_reverse] at hkl
    refine ⟨[], _, hF _ (fun a v hv => .inl hv) start (splitN n) (by omega), ?_⟩
    rintro _ _ ⟨rfl, rfl⟩
    refine ⟨rfl, fun g => ?_⟩
    refine ⟨[.string ⟨⟨F start (splitN n)⟩⟩], rfl, rdRow 1 rfl, rfl, by show (_ + _) * 16 ≤ _; omega, by omega, .inr ⟨0, rfl, rfl, rfl, rfl, rfl, rfl, fun A' cap' hg' => ?_⟩⟩
    refine ⟨_, Ent.drop [_] [_], A', _, cap', _, rfl, rfl, ?_, ?_, hg'⟩
    · rw [pathG_hi h2 hik, List.length_reverse, List.length_cons]; omega
    · rw [pathG_hi h2 hik, List.reverse_cons, ← SV_snoc, hxs]

set_option maxRecDepth 100000 in
set_option maxHeartbeats 1000000 in
theorem pathM_ok (fr : FuncId) (c : Value) (F : Nat → Nat → Str) (N : Nat) (hN : N ≤ 1000000000) : ∀ (n : Nat) (R : Rd) (start i : Nat),
    (∀ R' : Rd, (∀ a v, R a v → R' a v) → ∀ s m, s + m ≤ N → Fn Tryd.prog fr [c, .int .i64 s, .int .i64 m] [] R' (fun v h => v = .string ⟨⟨F s m⟩⟩ ∧ h = [])) →
    i < n → start + n ≤ N →
    Fn Tryd.prog 61 [.func (.func fr) #[c] #[], .int .i64 start, .int .i64 i, .int .i64 n] [] R (fun v h => OwnT v (pathG F start n i).reverse h) := by
  have hML := maxLen_eq
  intro n
  induction n using Nat.strongRecOn with
  | _ n ih =>
  intro R start i hF hi hle
  refine fn_of_vc mixed tabOk Tryd.func61 rfl (by kernel_rfl) (Nat.le_of_ble_eq_true rfl) ?_
  refine ⟨fun hb => ?_, fun hb => ?_⟩
  · replace hb := of_decide_eq_true hb
    obtain rfl : n = 1 := by omega
    refine ⟨_, Ent.nilrow [] 9 1, .none, 0, 0, [], rfl, rfl, ?_, ?_, .inl rfl⟩
    · rw [pathG_one (Nat.le_refl _)]; rfl
    · rw [pathG_one (Nat.le_refl _)]; rfl
  replace hb := of_decide_eq_false hb
  have h2 : 2 ≤ n := by omega
  clear hb
  have hk := splitN_lt h2
  have hk0 := splitN_pos n
  refine ⟨[], _, split_ok _ n h2 (by omega), ?_⟩
  rintro _ _ ⟨rfl, rfl⟩
  refine ⟨fun hb => ?_, fun hb => ?_⟩
  · replace hb := of_decide_eq_true hb
    have hik : i < splitN n := by omega
    clear hb
    refine ⟨[], _, ih (splitN n) hk _ start i (fun R' h => hF R' fun a v hv => h a v (.inl hv)) hik (by omega), ?_⟩
    rintro _ _ ⟨A, k, cap, xs, rfl, rfl, hkl, hxs, hg⟩
    have hpl := pathG_le F (splitN n) start i
    rw [List.length_reverse] at hkl
    (intro z hz; obtain rfl : z = ((start + splitN n : Nat) : Int) := (by first | (rw [IntKind.wrap_i64] at hz; omega) | (rw [IntKind.wrap_u64] at hz; omega) | omega); clear hz)
    (intro z hz; obtain rfl : z = ((n - splitN n : Nat) : Int) := (by first | (rw [IntKind.wrap_i64] at hz; omega) | (rw [IntKind.wrap_u64] at hz; omega) | omega); clear hz)
    refine ⟨[], _, hF _ (fun a v hv => .inl hv) (start + splitN n) (n - splitN n) (by omega), ?_⟩
    rintro _ _ ⟨rfl, rfl⟩
    refine ⟨rfl, fun g => ?_⟩
    refine ⟨[.string ⟨⟨F (start + splitN n) (n - splitN n)⟩⟩], rfl, rdRow 1 rfl, rfl, by show (_ + _) * 16 ≤ _; omega, by omega, .inr ⟨0, rfl, rfl, rfl, rfl, rfl, rfl, fun A' cap' hg' => ?_⟩⟩
    refine ⟨_, Ent.drop [_] [_], A', _, cap', _, rfl, rfl, ?_, ?_, hg'⟩
    · rw [pathG_lo h2 hik, List.length_reverse, List.length_cons]; omega
    · rw [pathG_lo h2 hik, List.reverse_cons, ← SV_snoc, hxs]
  · replace hb := of_decide_eq_false hb
    have hik : ¬ i < splitN n := by omega
    clear hb
    (intro z hz; obtain rfl : z = ((start + splitN n : Nat) : Int) := (by first | (rw [IntKind.wrap_i64] at hz; omega) | (rw [IntKind.wrap_u64] at hz; omega) | omega); clear hz)
    (intro z hz; obtain rfl : z = ((i - splitN n : Nat) : Int) := (by first | (rw [IntKind.wrap_i64] at hz; omega) | (rw [IntKind.wrap_u64] at hz; omega) | omega); clear hz)
    (intro z hz; obtain rfl : z = ((n - splitN n : Nat) : Int) := (by first | (rw [IntKind.wrap_i64] at hz; omega) | (rw [IntKind.wrap_u64] at hz; omega) | omega); clear hz)
    refine ⟨[], _, ih (n - splitN n) (by omega) _ (start + splitN n) (i - splitN n) (fun R' h => hF R' fun a v hv => h a v (.inl hv)) (by omega) (by omega), ?_⟩
    rintro _ _ ⟨A, k, cap, xs, rfl, rfl, hkl, hxs, hg⟩
    have hpl := pathG_le F (n - splitN n) (start + splitN n) (i - splitN n)
    rw [List.length_reverse] at hkl
    refine ⟨[], _, hF _ (fun a v hv => .inl hv) start (splitN n) (by omega), ?_⟩
    rintro _ _ ⟨rfl, rfl⟩
    refine ⟨rfl, fun g => ?_⟩
    refine ⟨[.string ⟨⟨F start (splitN n)⟩⟩], rfl, rdRow 1 rfl, rfl, by show (_ + _) * 16 ≤ _; omega, by omega, .inr ⟨0, rfl, rfl, rfl, rfl, rfl, rfl, fun A' cap' hg' => ?_⟩⟩
    refine ⟨_, Ent.drop [_] [_], A', _, cap', _, rfl, rfl, ?_, ?_, hg'⟩
    · rw [pathG_hi h2 hik, List.length_reverse, List.length_cons]; omega
    · rw [pathG_hi h2 hik, List.reverse_cons, ← SV_snoc, hxs]

end Go.Proofs.YtgbdfpfiolbhlaaDoor
