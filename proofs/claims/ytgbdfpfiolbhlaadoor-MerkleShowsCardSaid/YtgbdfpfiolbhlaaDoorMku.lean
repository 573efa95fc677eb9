/-
  Contracts: meets; the law MerkleShows.
-/
import Derived.Test.YtgbdfpfiolbhlaaDoorMks
import Derived.Test.YtgbdfpfiolbhlaaDoorMkl
namespace Go.Proofs.YtgbdfpfiolbhlaaDoor
open Go Go.RowKit
set_option linter.unusedVariables false

theorem blockLeaves_get {s : Nat} (hs : 1 ≤ s) : ∀ (b : Nat) (x : Str), b < (blockLeaves s x).length → (blockLeaves s x).getD b [] = leafOf (blockOf x s b)
  | b, x, h => by
    have hx : 0 < x.length := by
      rcases Nat.eq_zero_or_pos x.length with h0 | h0
      · rw [List.eq_nil_of_length_eq_zero h0, blockLeaves_nil] at h; cases h
      · exact h0
    rw [blockLeaves_cons hx hs] at h ⊢
    cases b with
    | zero => rw [blockOf, Nat.zero_mul, Nat.sub_zero, List.drop_zero, take_min]; rfl
    | succ b =>
      rw [List.length_cons] at h
      show (blockLeaves s (x.drop s)).getD b [] = _
      rw [blockLeaves_get hs b (x.drop s) (by omega), blockOf, blockOf, List.drop_drop, List.length_drop, Nat.succ_mul]
      congr 3
      · omega
      · omega
theorem see_good {x : Str} {s b : Nat} (h : goodB x s b) : seeB (rootOf (blockLeaves s x)) x.length s b (blockOf x s b) (pathOf (blockLeaves s x) b) = true ∧
    upR (leafOf (blockOf x s b)) (pathOf (blockLeaves s x) b).reverse b ((x.length - 1) / s + 1) = (rootOf (blockLeaves s x), true) := by
  obtain ⟨g1, g2, g3, g4, g5⟩ := good_le h
  have hL : (blockLeaves s x).length = (x.length - 1) / s + 1 := by rw [blockLeaves_length g1 x.length x rfl, countN, if_neg (by omega)]
  have hv := proves (l := blockLeaves s x) (i := b) g4 (blockLeaves_sums s _ x rfl)
  rw [blockLeaves_get g1 b x g4, hL] at hv
  refine ⟨?_, (verifyB_parts hv).2⟩
  rw [seeB_nat g2 g1 g5, if_pos blockOf_length, hv]
theorem see_up {root other : Str} {p : List Str} {n s b : Nat} (g2 : 1 ≤ n) (g1 : 1 ≤ s) (g5 : b ≤ (n - 1) / s) (h : seeB root n s b other p = true) : upR (leafOf other) p.reverse b ((n - 1) / s + 1) = (root, true) := by
  rw [seeB_nat g2 g1 g5] at h
  split at h
  · exact (verifyB_parts h).2
  · cases h
theorem leaf_coll {a b : Str} (h : a ≠ b) (e : leafOf a = leafOf b) : collB (0 :: a) (0 :: b) = true := collB_true (fun h2 => h (List.cons.inj h2).2) e

set_option maxRecDepth 100000 in
set_option maxHeartbeats 1000000 in
theorem meets_ok (a b : Str) (ha : a.length ≤ 1000000) (hb : b.length ≤ 1000000) : ∀ (rp : List Str) (R : Rd) (i n : Nat) (v4 : Value), i < n → n ≤ 9223372036854775807 → Small rp.reverse → Ss R v4 rp.reverse →
    Fn Tryd.prog 44 [.string ⟨⟨a⟩⟩, .string ⟨⟨b⟩⟩, .int .i64 i, .int .i64 n, v4] [] R (fun v h => v = .tuple ⟨[.string ⟨⟨recR a rp i n⟩⟩, .string ⟨⟨recR b rp i n⟩⟩, .bool (meetR a b rp i n)]⟩ ∧ h = []) := by
  intro rp
  induction rp with
  | nil =>
    intro R i n v3 hi hn hsm hs
    obtain ⟨A, cap, rfl, hc, hsr⟩ := hs
    refine fn_of_vc mixed tabOk Tryd.func44 rfl (by kernel_rfl) (Nat.le_of_ble_eq_true rfl) ?_
    by_cases h1 : n = 1
    · subst h1
      repeat (first | (refine ⟨fun h => ?_, fun h => ?_⟩; rotate_left 1; (focus (exfalso; (first | (with_reducible (cases h; done)) | (revert h; simp; done) | (revert h; simp; omega) | (revert h; simp [*]; done)))); clear h) | (refine ⟨fun h => ?_, fun h => ?_⟩; (focus (exfalso; (first | (with_reducible (cases h; done)) | (revert h; simp; done) | (revert h; simp; omega) | (revert h; simp [*]; done)))); clear h))
      exact ⟨_, Ent.refl _, rfl, rfl⟩
    · repeat (first | (refine ⟨fun h => ?_, fun h => ?_⟩; rotate_left 1; (focus (exfalso; (first | (with_reducible (cases h; done)) | (revert h; simp; done) | (revert h; simp; omega) | (revert h; simp [*]; done)))); clear h) | (refine ⟨fun h => ?_, fun h => ?_⟩; (focus (exfalso; (first | (with_reducible (cases h; done)) | (revert h; simp; done) | (revert h; simp; omega) | (revert h; simp [*]; done)))); clear h))
      exact ⟨_, Ent.refl _, rfl, rfl⟩
  | cons last rest ih =>
    intro R i n v3 hi hn hsm hs
    obtain ⟨A, cap, rfl, hc, hsr⟩ := hs
    have hs : Ss R (.slice A (last :: rest).reverse.length cap) (last :: rest).reverse := ⟨A, cap, rfl, hc, hsr⟩
    have hlr : (last :: rest).reverse.length = rest.length + 1 := by rw [List.length_reverse, List.length_cons]
    have hbig := hsm.1
    have hlast := hsm.last
    refine fn_of_vc mixed tabOk Tryd.func44 rfl (by kernel_rfl) (Nat.le_of_ble_eq_true rfl) ?_
    by_cases hn1 : n = 1
    · subst hn1
      repeat (first | (refine ⟨fun h => ?_, fun h => ?_⟩; rotate_left 1; (focus (exfalso; (first | (with_reducible (cases h; done)) | (revert h; simp; done) | (revert h; simp; omega) | (revert h; simp [*]; done)))); clear h) | (refine ⟨fun h => ?_, fun h => ?_⟩; (focus (exfalso; (first | (with_reducible (cases h; done)) | (revert h; simp; done) | (revert h; simp; omega) | (revert h; simp [*]; done)))); clear h))
      refine ⟨_, Ent.refl _, ?_, rfl⟩
      rw [recR, if_pos rfl, recR, if_pos rfl, meetR, if_pos rfl]; rfl
    · have h2 : 2 ≤ n := by omega
      have hk := splitN_lt h2
      have hk0 := splitN_pos n
      repeat (first | (refine ⟨fun h => ?_, fun h => ?_⟩; rotate_left 1; (focus (exfalso; (first | (with_reducible (cases h; done)) | (revert h; simp; done) | (revert h; simp; omega) | (revert h; simp [*]; done)))); clear h) | (refine ⟨fun h => ?_, fun h => ?_⟩; (focus (exfalso; (first | (with_reducible (cases h; done)) | (revert h; simp; done) | (revert h; simp; omega) | (revert h; simp [*]; done)))); clear h))
      obtain ⟨a0, ha0, hr⟩ := hsr.one (i := rest.length) (by omega)
      rw [rev_get] at hr
      have hbel := hs.take (k := rest.length) (by omega)
      rw [rev_take] at hbel
      refine ⟨[], _, Split_ok _ n h2 hn, ?_⟩
      rintro _ _ ⟨rfl, rfl⟩
      refine ⟨[], lexT 0 13, by kernel_rfl, ?_⟩
      (intro z hz; obtain rfl : z = ((rest.length : Nat) : Int) := (by first | (rw [IntKind.wrap_i64] at hz; omega) | (rw [IntKind.wrap_u64] at hz; omega) | omega); clear hz)
      refine ⟨by omega, by omega, a0, ha0, _, .inl hr, ?_⟩
      (intro z hz; obtain rfl : z = ((rest.length : Nat) : Int) := (by first | (rw [IntKind.wrap_i64] at hz; omega) | (rw [IntKind.wrap_u64] at hz; omega) | omega); clear hz)
      refine ⟨0, rest.length, rfl, rfl, by omega, by omega, ?_⟩
      by_cases hik : i < splitN n
      · repeat (first | (refine ⟨fun h => ?_, fun h => ?_⟩; rotate_left 1; (focus (exfalso; (first | (with_reducible (cases h; done)) | (revert h; simp; done) | (revert h; simp; omega) | (revert h; simp [*]; done)))); clear h) | (refine ⟨fun h => ?_, fun h => ?_⟩; (focus (exfalso; (first | (with_reducible (cases h; done)) | (revert h; simp; done) | (revert h; simp; omega) | (revert h; simp [*]; done)))); clear h))
        refine ⟨[], _, ih _ i (splitN n) _ hik (by omega) hsm.rest (hbel.rh _), ?_⟩
        rintro _ _ ⟨rfl, rfl⟩
        rw [recR, if_neg hn1, if_pos hik, recR, if_neg hn1, if_pos hik, meetR, if_neg hn1, if_pos hik]
        have hx := recR_len ha rest i (splitN n)
        have hy := recR_len hb rest i (splitN n)
        generalize recR a rest i (splitN n) = x at hx
        generalize recR b rest i (splitN n) = y at hy
        refine ⟨[], _, refNode_ok _ _ _ (by omega) (by omega), ?_⟩
        rintro _ _ ⟨rfl, rfl⟩
        refine ⟨[], _, refNode_ok _ _ _ (by omega) (by omega), ?_⟩
        rintro _ _ ⟨rfl, rfl⟩
        cases r : meetR a b rest i (splitN n)
        · repeat (first | (refine ⟨fun h => ?_, fun h => ?_⟩; rotate_left 1; (focus (exfalso; (first | (with_reducible (cases h; done)) | (revert h; simp; done) | (revert h; simp; omega) | (revert h; simp [*]; done)))); clear h) | (refine ⟨fun h => ?_, fun h => ?_⟩; (focus (exfalso; (first | (with_reducible (cases h; done)) | (revert h; simp; done) | (revert h; simp; omega) | (revert h; simp [*]; done)))); clear h))
          refine ⟨add1_le hx, ?_⟩
          repeat (first | (refine ⟨fun h => ?_, fun h => ?_⟩; rotate_left 1; (focus (exfalso; (first | (with_reducible (cases h; done)) | (revert h; simp; done) | (revert h; simp; omega) | (revert h; simp [*]; done)))); clear h) | (refine ⟨fun h => ?_, fun h => ?_⟩; (focus (exfalso; (first | (with_reducible (cases h; done)) | (revert h; simp; done) | (revert h; simp; omega) | (revert h; simp [*]; done)))); clear h))
          refine ⟨add2_le hx hlast, ?_⟩
          repeat (first | (refine ⟨fun h => ?_, fun h => ?_⟩; rotate_left 1; (focus (exfalso; (first | (with_reducible (cases h; done)) | (revert h; simp; done) | (revert h; simp; omega) | (revert h; simp [*]; done)))); clear h) | (refine ⟨fun h => ?_, fun h => ?_⟩; (focus (exfalso; (first | (with_reducible (cases h; done)) | (revert h; simp; done) | (revert h; simp; omega) | (revert h; simp [*]; done)))); clear h))
          refine ⟨add1_le hy, ?_⟩
          repeat (first | (refine ⟨fun h => ?_, fun h => ?_⟩; rotate_left 1; (focus (exfalso; (first | (with_reducible (cases h; done)) | (revert h; simp; done) | (revert h; simp; omega) | (revert h; simp [*]; done)))); clear h) | (refine ⟨fun h => ?_, fun h => ?_⟩; (focus (exfalso; (first | (with_reducible (cases h; done)) | (revert h; simp; done) | (revert h; simp; omega) | (revert h; simp [*]; done)))); clear h))
          refine ⟨add2_le hy hlast, ?_⟩
          repeat (first | (refine ⟨fun h => ?_, fun h => ?_⟩; rotate_left 1; (focus (exfalso; (first | (with_reducible (cases h; done)) | (revert h; simp; done) | (revert h; simp; omega) | (revert h; simp [*]; done)))); clear h) | (refine ⟨fun h => ?_, fun h => ?_⟩; (focus (exfalso; (first | (with_reducible (cases h; done)) | (revert h; simp; done) | (revert h; simp; omega) | (revert h; simp [*]; done)))); clear h))
          refine ⟨[], _, collides_ok _ (1 :: (x ++ last)) (1 :: (y ++ last)) (by rw [List.length_cons, List.length_append]; omega) (by rw [List.length_cons, List.length_append]; omega), ?_⟩
          rintro _ _ ⟨rfl, rfl⟩
          repeat (first | (refine ⟨fun h => ?_, fun h => ?_⟩; rotate_left 1; (focus (exfalso; (first | (with_reducible (cases h; done)) | (revert h; simp; done) | (revert h; simp; omega) | (revert h; simp [*]; done)))); clear h) | (refine ⟨fun h => ?_, fun h => ?_⟩; (focus (exfalso; (first | (with_reducible (cases h; done)) | (revert h; simp; done) | (revert h; simp; omega) | (revert h; simp [*]; done)))); clear h))
          exact ⟨_, Ent.refl _, rfl, rfl⟩
        · repeat (first | (refine ⟨fun h => ?_, fun h => ?_⟩; rotate_left 1; (focus (exfalso; (first | (with_reducible (cases h; done)) | (revert h; simp; done) | (revert h; simp; omega) | (revert h; simp [*]; done)))); clear h) | (refine ⟨fun h => ?_, fun h => ?_⟩; (focus (exfalso; (first | (with_reducible (cases h; done)) | (revert h; simp; done) | (revert h; simp; omega) | (revert h; simp [*]; done)))); clear h))
          exact ⟨_, Ent.refl _, rfl, rfl⟩
      · repeat (first | (refine ⟨fun h => ?_, fun h => ?_⟩; rotate_left 1; (focus (exfalso; (first | (with_reducible (cases h; done)) | (revert h; simp; done) | (revert h; simp; omega) | (revert h; simp [*]; done)))); clear h) | (refine ⟨fun h => ?_, fun h => ?_⟩; (focus (exfalso; (first | (with_reducible (cases h; done)) | (revert h; simp; done) | (revert h; simp; omega) | (revert h; simp [*]; done)))); clear h))
        (intro z hz; obtain rfl : z = ((i - splitN n : Nat) : Int) := (by first | (rw [IntKind.wrap_i64] at hz; omega) | (rw [IntKind.wrap_u64] at hz; omega) | omega); clear hz)
        (intro z hz; obtain rfl : z = ((n - splitN n : Nat) : Int) := (by first | (rw [IntKind.wrap_i64] at hz; omega) | (rw [IntKind.wrap_u64] at hz; omega) | omega); clear hz)
        refine ⟨[], _, ih _ (i - splitN n) (n - splitN n) _ (by omega) (by omega) hsm.rest (hbel.rh _), ?_⟩
        rintro _ _ ⟨rfl, rfl⟩
        rw [recR, if_neg hn1, if_neg hik, recR, if_neg hn1, if_neg hik, meetR, if_neg hn1, if_neg hik]
        have hx := recR_len ha rest (i - splitN n) (n - splitN n)
        have hy := recR_len hb rest (i - splitN n) (n - splitN n)
        generalize recR a rest (i - splitN n) (n - splitN n) = x at hx
        generalize recR b rest (i - splitN n) (n - splitN n) = y at hy
        refine ⟨[], _, refNode_ok _ _ _ (by omega) (by omega), ?_⟩
        rintro _ _ ⟨rfl, rfl⟩
        refine ⟨[], _, refNode_ok _ _ _ (by omega) (by omega), ?_⟩
        rintro _ _ ⟨rfl, rfl⟩
        cases r : meetR a b rest (i - splitN n) (n - splitN n)
        · repeat (first | (refine ⟨fun h => ?_, fun h => ?_⟩; rotate_left 1; (focus (exfalso; (first | (with_reducible (cases h; done)) | (revert h; simp; done) | (revert h; simp; omega) | (revert h; simp [*]; done)))); clear h) | (refine ⟨fun h => ?_, fun h => ?_⟩; (focus (exfalso; (first | (with_reducible (cases h; done)) | (revert h; simp; done) | (revert h; simp; omega) | (revert h; simp [*]; done)))); clear h))
          refine ⟨add1_le hlast, ?_⟩
          repeat (first | (refine ⟨fun h => ?_, fun h => ?_⟩; rotate_left 1; (focus (exfalso; (first | (with_reducible (cases h; done)) | (revert h; simp; done) | (revert h; simp; omega) | (revert h; simp [*]; done)))); clear h) | (refine ⟨fun h => ?_, fun h => ?_⟩; (focus (exfalso; (first | (with_reducible (cases h; done)) | (revert h; simp; done) | (revert h; simp; omega) | (revert h; simp [*]; done)))); clear h))
          refine ⟨add2_le hlast hx, ?_⟩
          repeat (first | (refine ⟨fun h => ?_, fun h => ?_⟩; rotate_left 1; (focus (exfalso; (first | (with_reducible (cases h; done)) | (revert h; simp; done) | (revert h; simp; omega) | (revert h; simp [*]; done)))); clear h) | (refine ⟨fun h => ?_, fun h => ?_⟩; (focus (exfalso; (first | (with_reducible (cases h; done)) | (revert h; simp; done) | (revert h; simp; omega) | (revert h; simp [*]; done)))); clear h))
          refine ⟨add1_le hlast, ?_⟩
          repeat (first | (refine ⟨fun h => ?_, fun h => ?_⟩; rotate_left 1; (focus (exfalso; (first | (with_reducible (cases h; done)) | (revert h; simp; done) | (revert h; simp; omega) | (revert h; simp [*]; done)))); clear h) | (refine ⟨fun h => ?_, fun h => ?_⟩; (focus (exfalso; (first | (with_reducible (cases h; done)) | (revert h; simp; done) | (revert h; simp; omega) | (revert h; simp [*]; done)))); clear h))
          refine ⟨add2_le hlast hy, ?_⟩
          repeat (first | (refine ⟨fun h => ?_, fun h => ?_⟩; rotate_left 1; (focus (exfalso; (first | (with_reducible (cases h; done)) | (revert h; simp; done) | (revert h; simp; omega) | (revert h; simp [*]; done)))); clear h) | (refine ⟨fun h => ?_, fun h => ?_⟩; (focus (exfalso; (first | (with_reducible (cases h; done)) | (revert h; simp; done) | (revert h; simp; omega) | (revert h; simp [*]; done)))); clear h))
          refine ⟨[], _, collides_ok _ (1 :: (last ++ x)) (1 :: (last ++ y)) (by rw [List.length_cons, List.length_append]; omega) (by rw [List.length_cons, List.length_append]; omega), ?_⟩
          rintro _ _ ⟨rfl, rfl⟩
          repeat (first | (refine ⟨fun h => ?_, fun h => ?_⟩; rotate_left 1; (focus (exfalso; (first | (with_reducible (cases h; done)) | (revert h; simp; done) | (revert h; simp; omega) | (revert h; simp [*]; done)))); clear h) | (refine ⟨fun h => ?_, fun h => ?_⟩; (focus (exfalso; (first | (with_reducible (cases h; done)) | (revert h; simp; done) | (revert h; simp; omega) | (revert h; simp [*]; done)))); clear h))
          exact ⟨_, Ent.refl _, rfl, rfl⟩
        · repeat (first | (refine ⟨fun h => ?_, fun h => ?_⟩; rotate_left 1; (focus (exfalso; (first | (with_reducible (cases h; done)) | (revert h; simp; done) | (revert h; simp; omega) | (revert h; simp [*]; done)))); clear h) | (refine ⟨fun h => ?_, fun h => ?_⟩; (focus (exfalso; (first | (with_reducible (cases h; done)) | (revert h; simp; done) | (revert h; simp; omega) | (revert h; simp [*]; done)))); clear h))
          exact ⟨_, Ent.refl _, rfl, rfl⟩

end Go.Proofs.YtgbdfpfiolbhlaaDoor
