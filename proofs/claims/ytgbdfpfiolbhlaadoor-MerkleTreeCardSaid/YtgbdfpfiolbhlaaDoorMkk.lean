/-
  Contracts: collides, recompute, reaches.
-/
import Derived.Test.YtgbdfpfiolbhlaaDoorMkj
namespace Go.Proofs.YtgbdfpfiolbhlaaDoor
open Go Go.RowKit
set_option linter.unusedVariables false

theorem add1_le {a : Str} (h : a.length ≤ 1000000) : ([1] : Str).length + a.length ≤ maxLen := by rw [maxLen_eq]; show 1 + _ ≤ _; omega
theorem add2_le {a b : Str} (h : a.length ≤ 1000000) (h2 : b.length ≤ 1000000) : ([1] ++ a).length + b.length ≤ maxLen := by rw [maxLen_eq, List.length_append]; show 1 + _ + _ ≤ _; omega
theorem cat_one (a : Str) : cat [a] = a := by simp [cat]
set_option maxRecDepth 100000 in
theorem collides_ok (R : Rd) (a b : Str) (ha : a.length ≤ 1000000000) (hb : b.length ≤ 1000000000) :
    Fn Tryd.prog 43 [.string ⟨⟨a⟩⟩, .string ⟨⟨b⟩⟩] [] R (fun v h => v = .bool (collB a b) ∧ h = []) := by
  refine fn_of_vc mixed tabOk Tryd.func43 rfl (by kernel_rfl) (Nat.le_of_ble_eq_true rfl) ?_
  by_cases c : a = b
  · repeat (first | (refine ⟨fun h => ?_, fun h => ?_⟩; rotate_left 1; (focus (exfalso; (first | (with_reducible (cases h; done)) | (revert h; simp; done) | (revert h; simp; omega) | (revert h; simp [*]; done)))); clear h) | (refine ⟨fun h => ?_, fun h => ?_⟩; (focus (exfalso; (first | (with_reducible (cases h; done)) | (revert h; simp; done) | (revert h; simp; omega) | (revert h; simp [*]; done)))); clear h))
    refine ⟨_, Ent.refl _, ?_, rfl⟩
    rw [collB, decide_eq_false (fun h => h c)]; rfl
  repeat (first | (refine ⟨fun h => ?_, fun h => ?_⟩; rotate_left 1; (focus (exfalso; (first | (with_reducible (cases h; done)) | (revert h; simp; done) | (revert h; simp; omega) | (revert h; simp [*]; done)))); clear h) | (refine ⟨fun h => ?_, fun h => ?_⟩; (focus (exfalso; (first | (with_reducible (cases h; done)) | (revert h; simp; done) | (revert h; simp; omega) | (revert h; simp [*]; done)))); clear h))
  refine ⟨rfl, fun g => ?_⟩
  repeat (first | (refine ⟨fun h => ?_, fun h => ?_⟩; rotate_left 1; (focus (exfalso; (first | (with_reducible (cases h; done)) | (revert h; simp; done) | (revert h; simp; omega) | (revert h; simp [*]; done)))); clear h) | (refine ⟨fun h => ?_, fun h => ?_⟩; (focus (exfalso; (first | (with_reducible (cases h; done)) | (revert h; simp; done) | (revert h; simp; omega) | (revert h; simp [*]; done)))); clear h))
  refine ⟨[], _, refJoin_ok _ [a] (.slice (some ⟨g, 0, .none⟩) 1 1) (by rw [cat_one]; omega) (by show 1 ≤ _; omega) (SlR.own 0 rfl rfl (.inr ⟨g, rfl⟩)), ?_⟩
  rintro _ _ ⟨rfl, rfl⟩
  rw [cat_one, collB, decide_eq_true c]
  generalize sha a = sa
  repeat (first | (refine ⟨fun h => ?_, fun h => ?_⟩; rotate_left 1; (focus (exfalso; (first | (with_reducible (cases h; done)) | (revert h; simp; done) | (revert h; simp; omega) | (revert h; simp [*]; done)))); clear h) | (refine ⟨fun h => ?_, fun h => ?_⟩; (focus (exfalso; (first | (with_reducible (cases h; done)) | (revert h; simp; done) | (revert h; simp; omega) | (revert h; simp [*]; done)))); clear h))
  refine ⟨rfl, fun g2 => ?_⟩
  repeat (first | (refine ⟨fun h => ?_, fun h => ?_⟩; rotate_left 1; (focus (exfalso; (first | (with_reducible (cases h; done)) | (revert h; simp; done) | (revert h; simp; omega) | (revert h; simp [*]; done)))); clear h) | (refine ⟨fun h => ?_, fun h => ?_⟩; (focus (exfalso; (first | (with_reducible (cases h; done)) | (revert h; simp; done) | (revert h; simp; omega) | (revert h; simp [*]; done)))); clear h))
  refine ⟨[], _, refJoin_ok _ [b] (.slice (some ⟨g2, 0, .none⟩) 1 1) (by rw [cat_one]; omega) (by show 1 ≤ _; omega) (SlR.own 1 rfl rfl (.inr ⟨g2, rfl⟩)), ?_⟩
  rintro _ _ ⟨rfl, rfl⟩
  rw [cat_one]
  generalize sha b = sb
  repeat (first | (refine ⟨fun h => ?_, fun h => ?_⟩; rotate_left 1; (focus (exfalso; (first | (with_reducible (cases h; done)) | (revert h; simp; done) | (revert h; simp; omega) | (revert h; simp [*]; done)))); clear h) | (refine ⟨fun h => ?_, fun h => ?_⟩; (focus (exfalso; (first | (with_reducible (cases h; done)) | (revert h; simp; done) | (revert h; simp; omega) | (revert h; simp [*]; done)))); clear h))
  exact ⟨_, Ent.drop [] [_, _], rfl, rfl⟩

set_option maxRecDepth 100000 in
theorem lawrec_ok (leaf : Str) (hleaf : leaf.length ≤ 1000000) : ∀ (rp : List Str) (R : Rd) (i n : Nat) (v3 : Value), i < n → n ≤ 9223372036854775807 → Small rp.reverse → Ss R v3 rp.reverse →
    Fn Tryd.prog 67 [.string ⟨⟨leaf⟩⟩, .int .i64 i, .int .i64 n, v3] [] R (fun v h => v = .string ⟨⟨recR leaf rp i n⟩⟩ ∧ h = []) := by
  intro rp
  induction rp with
  | nil =>
    intro R i n v3 hi hn hsm hs
    obtain ⟨A, cap, rfl, hc, hsr⟩ := hs
    refine fn_of_vc mixed tabOk Tryd.func67 rfl (by kernel_rfl) (Nat.le_of_ble_eq_true rfl) ?_
    by_cases h1 : n = 1
    · subst h1
      repeat (first | (refine ⟨fun h => ?_, fun h => ?_⟩; rotate_left 1; (focus (exfalso; (first | (with_reducible (cases h; done)) | (revert h; simp; done) | (revert h; simp; omega) | (revert h; simp [*]; done)))); clear h) | (refine ⟨fun h => ?_, fun h => ?_⟩; (focus (exfalso; (first | (with_reducible (cases h; done)) | (revert h; simp; done) | (revert h; simp; omega) | (revert h; simp [*]; done)))); clear h))
      exact ⟨_, Ent.refl _, rfl, rfl⟩
    · repeat (first | (refine ⟨fun h => ?_, fun h => ?_⟩; rotate_left 1; (focus (exfalso; (first | (with_reducible (cases h; done)) | (revert h; simp; done) | (revert h; simp; omega) | (revert h; simp [*]; done)))); clear h) | (refine ⟨fun h => ?_, fun h => ?_⟩; (focus (exfalso; (first | (with_reducible (cases h; done)) | (revert h; simp; done) | (revert h; simp; omega) | (revert h; simp [*]; done)))); clear h))
      exact ⟨_, Ent.refl _, rfl, rfl⟩
  | cons last rest ih =>
    intro R i n v3 hi hn hsm hs
    obtain ⟨A, cap, rfl, hc, hsr⟩ := hs
    have hs : Ss R (.slice A (last :: rest).reverse.length cap) (last :: rest).reverse := ⟨A, cap, rfl, hc, hsr⟩
    have hlr : (last :: rest).reverse.length = rest.length + 1 := by rw [List.length_reverse, List.length_cons]
    have hbig := hsm.1
    refine fn_of_vc mixed tabOk Tryd.func67 rfl (by kernel_rfl) (Nat.le_of_ble_eq_true rfl) ?_
    by_cases hn1 : n = 1
    · subst hn1
      repeat (first | (refine ⟨fun h => ?_, fun h => ?_⟩; rotate_left 1; (focus (exfalso; (first | (with_reducible (cases h; done)) | (revert h; simp; done) | (revert h; simp; omega) | (revert h; simp [*]; done)))); clear h) | (refine ⟨fun h => ?_, fun h => ?_⟩; (focus (exfalso; (first | (with_reducible (cases h; done)) | (revert h; simp; done) | (revert h; simp; omega) | (revert h; simp [*]; done)))); clear h))
      refine ⟨_, Ent.refl _, ?_, rfl⟩
      rw [recR, if_pos rfl]; rfl
    · have h2 : 2 ≤ n := by omega
      have hk := splitN_lt h2
      have hk0 := splitN_pos n
      repeat (first | (refine ⟨fun h => ?_, fun h => ?_⟩; rotate_left 1; (focus (exfalso; (first | (with_reducible (cases h; done)) | (revert h; simp; done) | (revert h; simp; omega) | (revert h; simp [*]; done)))); clear h) | (refine ⟨fun h => ?_, fun h => ?_⟩; (focus (exfalso; (first | (with_reducible (cases h; done)) | (revert h; simp; done) | (revert h; simp; omega) | (revert h; simp [*]; done)))); clear h))
      obtain ⟨a, ha, hr⟩ := hsr.one (i := rest.length) (by omega)
      rw [rev_get] at hr
      have hbel := hs.take (k := rest.length) (by omega)
      rw [rev_take] at hbel
      refine ⟨[], _, Split_ok _ n h2 hn, ?_⟩
      rintro _ _ ⟨rfl, rfl⟩
      refine ⟨[], lexT 0 13, by kernel_rfl, ?_⟩
      (intro z hz; obtain rfl : z = ((rest.length : Nat) : Int) := (by first | (rw [IntKind.wrap_i64] at hz; omega) | (rw [IntKind.wrap_u64] at hz; omega) | omega); clear hz)
      refine ⟨by omega, by omega, a, ha, _, .inl hr, ?_⟩
      (intro z hz; obtain rfl : z = ((rest.length : Nat) : Int) := (by first | (rw [IntKind.wrap_i64] at hz; omega) | (rw [IntKind.wrap_u64] at hz; omega) | omega); clear hz)
      refine ⟨0, rest.length, rfl, rfl, by omega, by omega, ?_⟩
      refine ⟨fun hb => ?_, fun hb => ?_⟩
      · replace hb := of_decide_eq_true hb
        have hik : i < splitN n := by omega
        clear hb
        refine ⟨[], _, ih _ i (splitN n) _ hik (by omega) hsm.rest (hbel.rh _), ?_⟩
        rintro _ _ ⟨rfl, rfl⟩
        refine ⟨[], _, refNode_ok _ _ _ (by have := recR_len hleaf rest i (splitN n); omega) (by have := hsm.last; omega), ?_⟩
        rintro _ _ ⟨rfl, rfl⟩
        refine ⟨_, Ent.refl _, ?_, rfl⟩
        rw [recR, if_neg hn1, if_pos hik]; rfl
      · replace hb := of_decide_eq_false hb
        have hik : ¬ i < splitN n := by omega
        clear hb
        (intro z hz; obtain rfl : z = ((i - splitN n : Nat) : Int) := (by first | (rw [IntKind.wrap_i64] at hz; omega) | (rw [IntKind.wrap_u64] at hz; omega) | omega); clear hz)
        (intro z hz; obtain rfl : z = ((n - splitN n : Nat) : Int) := (by first | (rw [IntKind.wrap_i64] at hz; omega) | (rw [IntKind.wrap_u64] at hz; omega) | omega); clear hz)
        refine ⟨[], _, ih _ (i - splitN n) (n - splitN n) _ (by omega) (by omega) hsm.rest (hbel.rh _), ?_⟩
        rintro _ _ ⟨rfl, rfl⟩
        refine ⟨[], _, refNode_ok _ _ _ (by have := hsm.last; omega) (by have := recR_len hleaf rest (i - splitN n) (n - splitN n); omega), ?_⟩
        rintro _ _ ⟨rfl, rfl⟩
        refine ⟨_, Ent.refl _, ?_, rfl⟩
        rw [recR, if_neg hn1, if_neg hik]; rfl

set_option maxRecDepth 100000 in
set_option maxHeartbeats 1000000 in
theorem reaches_ok (leaf : Str) (hleaf : leaf.length ≤ 1000000) : ∀ (rp : List Str) (R : Rd) (l : List Str) (i : Nat) (v0 v3 : Value), rp.length = (pathR l i).length → i < l.length → Small l → Small rp.reverse → Ss R v0 l → Ss R v3 rp.reverse →
    Fn Tryd.prog 30 [v0, .string ⟨⟨leaf⟩⟩, .int .i64 i, v3] [] R (fun v h => v = .bool (reachR leaf rp l i) ∧ h = []) := by
  have hML := maxLen_eq
  intro rp
  induction rp with
  | nil =>
    intro R l i v0 v3 hp hi hsl hsm hs0 hs
    have h1 : l.length = 1 := by
      refine Classical.byContradiction fun h => ?_
      by_cases c : i < splitN l.length
      · rw [pathR_lo (by omega) c] at hp; cases hp
      · rw [pathR_hi (by omega) c] at hp; cases hp
    obtain ⟨A, cap, rfl, hc, hsr⟩ := hs0
    obtain ⟨B, cap2, rfl, hc2, hsr2⟩ := hs
    refine fn_of_vc mixed tabOk Tryd.func30 rfl (by kernel_rfl) (Nat.le_of_ble_eq_true rfl) ?_
    repeat (first | (refine ⟨fun h => ?_, fun h => ?_⟩; rotate_left 1; (focus (exfalso; (first | (with_reducible (cases h; done)) | (revert h; simp; done) | (revert h; simp; omega) | (revert h; simp [*]; done)))); clear h) | (refine ⟨fun h => ?_, fun h => ?_⟩; (focus (exfalso; (first | (with_reducible (cases h; done)) | (revert h; simp; done) | (revert h; simp; omega) | (revert h; simp [*]; done)))); clear h))
    obtain ⟨a, ha, hr⟩ := hsr.one (i := 0) (by omega)
    refine ⟨by omega, by omega, a, ha, _, .inl hr, ?_⟩
    exact ⟨_, Ent.refl _, rfl, rfl⟩
  | cons last rest ih =>
    intro R l i v0 v3 hp hi hsl hsm hs0 hs
    have h2 : 2 ≤ l.length := by
      refine Classical.byContradiction fun h => ?_
      rw [pathR_one (by omega)] at hp; cases hp
    have h1 : l.length ≠ 1 := by omega
    obtain ⟨A, cap, rfl, hc, hsr⟩ := hs0
    obtain ⟨B, cap2, rfl, hc2, hsr2⟩ := hs
    have hs0 : Ss R (.slice A l.length cap) l := ⟨A, cap, rfl, hc, hsr⟩
    have hs : Ss R (.slice B (last :: rest).reverse.length cap2) (last :: rest).reverse := ⟨B, cap2, rfl, hc2, hsr2⟩
    have hlr : (last :: rest).reverse.length = rest.length + 1 := by rw [List.length_reverse, List.length_cons]
    have hbig := hsm.1
    have hbigl := hsl.1
    have hk := splitN_lt h2
    have hk0 := splitN_pos l.length
    obtain ⟨a, ha, hr⟩ := hsr2.one (i := rest.length) (by omega)
    rw [rev_get] at hr
    have hbel := hs.take (k := rest.length) (by omega)
    rw [rev_take] at hbel
    have hlast := hsm.last
    have hr1 := (hsl.take (splitN l.length)).root
    have hr2 := (hsl.drop (splitN l.length)).root
    refine fn_of_vc mixed tabOk Tryd.func30 rfl (by kernel_rfl) (Nat.le_of_ble_eq_true rfl) ?_
    by_cases hik : i < splitN l.length
    · repeat (first | (refine ⟨fun h => ?_, fun h => ?_⟩; rotate_left 1; (focus (exfalso; (first | (with_reducible (cases h; done)) | (revert h; simp; done) | (revert h; simp; omega) | (revert h; simp [*]; done)))); clear h) | (refine ⟨fun h => ?_, fun h => ?_⟩; (focus (exfalso; (first | (with_reducible (cases h; done)) | (revert h; simp; done) | (revert h; simp; omega) | (revert h; simp [*]; done)))); clear h))
      refine ⟨[], _, Split_ok _ l.length h2 (by omega), ?_⟩
      rintro _ _ ⟨rfl, rfl⟩
      refine ⟨[], lexT 0 10, by kernel_rfl, ?_⟩
      refine ⟨0, splitN l.length, rfl, rfl, by omega, by omega, ?_⟩
      refine ⟨splitN l.length, l.length, rfl, rfl, by omega, by omega, ?_⟩
      repeat (first | (refine ⟨fun h => ?_, fun h => ?_⟩; rotate_left 1; (focus (exfalso; (first | (with_reducible (cases h; done)) | (revert h; simp; done) | (revert h; simp; omega) | (revert h; simp [*]; done)))); clear h) | (refine ⟨fun h => ?_, fun h => ?_⟩; (focus (exfalso; (first | (with_reducible (cases h; done)) | (revert h; simp; done) | (revert h; simp; omega) | (revert h; simp [*]; done)))); clear h))
      refine ⟨[], lexT 0 13, by kernel_rfl, ?_⟩
      (intro z hz; obtain rfl : z = ((rest.length : Nat) : Int) := (by first | (rw [IntKind.wrap_i64] at hz; omega) | (rw [IntKind.wrap_u64] at hz; omega) | omega); clear hz)
      refine ⟨by omega, by omega, a, ha, _, .inl hr, ?_⟩
      (intro z hz; obtain rfl : z = ((rest.length : Nat) : Int) := (by first | (rw [IntKind.wrap_i64] at hz; omega) | (rw [IntKind.wrap_u64] at hz; omega) | omega); clear hz)
      refine ⟨0, rest.length, rfl, rfl, by omega, by omega, ?_⟩
      refine ⟨[], _, lawrec_ok leaf hleaf rest _ i (splitN l.length) _ hik (by omega) hsm.rest (hbel.rh _), ?_⟩
      rintro _ _ ⟨rfl, rfl⟩
      have hin := recR_len hleaf rest i (splitN l.length)
      rw [reachR, if_neg h1, if_pos hik]
      generalize recR leaf rest i (splitN l.length) = inner at hin
      refine ⟨add1_le hin, ?_⟩
      refine ⟨add2_le hin hlast, ?_⟩
      refine ⟨[], _, refRoot_ok _ _ (l.take (splitN l.length)) _ rfl (hsl.take _) ((hs0.take (by omega)).rh _), ?_⟩
      rintro _ _ ⟨rfl, rfl⟩
      generalize rootOf (l.take (splitN l.length)) = r1 at hr1
      refine ⟨add1_le hr1, ?_⟩
      refine ⟨[], _, refRoot_ok _ _ (l.drop (splitN l.length)) _ rfl (hsl.drop _) ((hs0.drop (by omega)).rh _), ?_⟩
      rintro _ _ ⟨rfl, rfl⟩
      generalize rootOf (l.drop (splitN l.length)) = r2 at hr2
      refine ⟨add2_le hr1 hr2, ?_⟩
      repeat (first | (refine ⟨fun h => ?_, fun h => ?_⟩; rotate_left 1; (focus (exfalso; (first | (with_reducible (cases h; done)) | (revert h; simp; done) | (revert h; simp; omega) | (revert h; simp [*]; done)))); clear h) | (refine ⟨fun h => ?_, fun h => ?_⟩; (focus (exfalso; (first | (with_reducible (cases h; done)) | (revert h; simp; done) | (revert h; simp; omega) | (revert h; simp [*]; done)))); clear h))
      refine ⟨fun hb => ?_, fun hb => ?_⟩
      · replace hb := of_decide_eq_false (Bool.not_eq_true' _ ▸ hb)
        replace hb : ¬ 1 :: (inner ++ last) = 1 :: (r1 ++ r2) := hb
        refine ⟨[], _, collides_ok _ (1 :: (inner ++ last)) (1 :: (r1 ++ r2)) (by rw [List.length_cons, List.length_append]; omega) (by rw [List.length_cons, List.length_append]; omega), ?_⟩
        rintro _ _ ⟨rfl, rfl⟩
        refine ⟨_, Ent.refl _, ?_, rfl⟩
        rw [if_neg hb]; rfl
      · replace hb := of_decide_eq_true (Bool.not_eq_false' _ ▸ hb)
        replace hb : 1 :: (inner ++ last) = 1 :: (r1 ++ r2) := hb
        refine ⟨[], _, ih _ (l.take (splitN l.length)) i _ _ ?_ (by rw [List.length_take]; omega) (hsl.take _) hsm.rest ((hs0.take (by omega)).rh _) (hbel.rh _), ?_⟩
        · rw [pathR_lo h2 hik] at hp; simpa using hp
        rintro _ _ ⟨rfl, rfl⟩
        refine ⟨_, Ent.refl _, ?_, rfl⟩
        rw [if_pos hb]; rfl
    · repeat (first | (refine ⟨fun h => ?_, fun h => ?_⟩; rotate_left 1; (focus (exfalso; (first | (with_reducible (cases h; done)) | (revert h; simp; done) | (revert h; simp; omega) | (revert h; simp [*]; done)))); clear h) | (refine ⟨fun h => ?_, fun h => ?_⟩; (focus (exfalso; (first | (with_reducible (cases h; done)) | (revert h; simp; done) | (revert h; simp; omega) | (revert h; simp [*]; done)))); clear h))
      refine ⟨[], _, Split_ok _ l.length h2 (by omega), ?_⟩
      rintro _ _ ⟨rfl, rfl⟩
      refine ⟨[], lexT 0 10, by kernel_rfl, ?_⟩
      refine ⟨0, splitN l.length, rfl, rfl, by omega, by omega, ?_⟩
      refine ⟨splitN l.length, l.length, rfl, rfl, by omega, by omega, ?_⟩
      repeat (first | (refine ⟨fun h => ?_, fun h => ?_⟩; rotate_left 1; (focus (exfalso; (first | (with_reducible (cases h; done)) | (revert h; simp; done) | (revert h; simp; omega) | (revert h; simp [*]; done)))); clear h) | (refine ⟨fun h => ?_, fun h => ?_⟩; (focus (exfalso; (first | (with_reducible (cases h; done)) | (revert h; simp; done) | (revert h; simp; omega) | (revert h; simp [*]; done)))); clear h))
      refine ⟨[], lexT 0 12, by kernel_rfl, ?_⟩
      refine ⟨splitN l.length, l.length, rfl, rfl, by omega, by omega, ?_⟩
      refine ⟨0, splitN l.length, rfl, rfl, by omega, by omega, ?_⟩
      (intro z hz; obtain rfl : z = ((i - splitN l.length : Nat) : Int) := (by first | (rw [IntKind.wrap_i64] at hz; omega) | (rw [IntKind.wrap_u64] at hz; omega) | omega); clear hz)
      refine ⟨[], lexT 0 13, by kernel_rfl, ?_⟩
      (intro z hz; obtain rfl : z = ((rest.length : Nat) : Int) := (by first | (rw [IntKind.wrap_i64] at hz; omega) | (rw [IntKind.wrap_u64] at hz; omega) | omega); clear hz)
      refine ⟨by omega, by omega, a, ha, _, .inl hr, ?_⟩
      (intro z hz; obtain rfl : z = ((rest.length : Nat) : Int) := (by first | (rw [IntKind.wrap_i64] at hz; omega) | (rw [IntKind.wrap_u64] at hz; omega) | omega); clear hz)
      refine ⟨0, rest.length, rfl, rfl, by omega, by omega, ?_⟩
      refine ⟨[], _, lawrec_ok leaf hleaf rest _ (i - splitN l.length) (l.length - splitN l.length) _ (by omega) (by omega) hsm.rest (hbel.rh _), ?_⟩
      rintro _ _ ⟨rfl, rfl⟩
      have hin := recR_len hleaf rest (i - splitN l.length) (l.length - splitN l.length)
      rw [reachR, if_neg h1, if_neg hik]
      generalize recR leaf rest (i - splitN l.length) (l.length - splitN l.length) = inner at hin
      refine ⟨add1_le hin, ?_⟩
      refine ⟨add2_le hin hlast, ?_⟩
      refine ⟨[], _, refRoot_ok _ _ (l.drop (splitN l.length)) _ rfl (hsl.drop _) ((hs0.drop (by omega)).rh _), ?_⟩
      rintro _ _ ⟨rfl, rfl⟩
      refine ⟨add1_le hr2, ?_⟩
      refine ⟨[], _, refRoot_ok _ _ (l.take (splitN l.length)) _ rfl (hsl.take _) ((hs0.take (by omega)).rh _), ?_⟩
      rintro _ _ ⟨rfl, rfl⟩
      refine ⟨add2_le hr2 hr1, ?_⟩
      repeat (first | (refine ⟨fun h => ?_, fun h => ?_⟩; rotate_left 1; (focus (exfalso; (first | (with_reducible (cases h; done)) | (revert h; simp; done) | (revert h; simp; omega) | (revert h; simp [*]; done)))); clear h) | (refine ⟨fun h => ?_, fun h => ?_⟩; (focus (exfalso; (first | (with_reducible (cases h; done)) | (revert h; simp; done) | (revert h; simp; omega) | (revert h; simp [*]; done)))); clear h))
      refine ⟨add1_le hlast, ?_⟩
      refine ⟨add2_le hlast hin, ?_⟩
      refine ⟨[], _, refRoot_ok _ _ (l.take (splitN l.length)) _ rfl (hsl.take _) ((hs0.take (by omega)).rh _), ?_⟩
      rintro _ _ ⟨rfl, rfl⟩
      generalize rootOf (l.take (splitN l.length)) = r1 at hr1
      refine ⟨add1_le hr1, ?_⟩
      refine ⟨[], _, refRoot_ok _ _ (l.drop (splitN l.length)) _ rfl (hsl.drop _) ((hs0.drop (by omega)).rh _), ?_⟩
      rintro _ _ ⟨rfl, rfl⟩
      generalize rootOf (l.drop (splitN l.length)) = r2 at hr2
      refine ⟨add2_le hr1 hr2, ?_⟩
      refine ⟨fun hb => ?_, fun hb => ?_⟩
      · replace hb := of_decide_eq_false (Bool.not_eq_true' _ ▸ hb)
        replace hb : ¬ 1 :: (last ++ inner) = 1 :: (r1 ++ r2) := hb
        refine ⟨[], _, collides_ok _ (1 :: (last ++ inner)) (1 :: (r1 ++ r2)) (by rw [List.length_cons, List.length_append]; omega) (by rw [List.length_cons, List.length_append]; omega), ?_⟩
        rintro _ _ ⟨rfl, rfl⟩
        refine ⟨_, Ent.refl _, ?_, rfl⟩
        rw [if_neg hb]; rfl
      · replace hb := of_decide_eq_true (Bool.not_eq_false' _ ▸ hb)
        replace hb : 1 :: (last ++ inner) = 1 :: (r1 ++ r2) := hb
        refine ⟨[], _, ih _ (l.drop (splitN l.length)) (i - splitN l.length) _ _ ?_ (by rw [List.length_drop]; omega) (hsl.drop _) hsm.rest ((hs0.drop (by omega)).rh _) (hbel.rh _), ?_⟩
        · rw [pathR_hi h2 hik] at hp; simpa using hp
        rintro _ _ ⟨rfl, rfl⟩
        refine ⟨_, Ent.refl _, ?_, rfl⟩
        rw [if_pos hb]; rfl

end Go.Proofs.YtgbdfpfiolbhlaaDoor
