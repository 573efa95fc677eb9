/-
  Top: the contracts of a21Climb and a21Reaches.
-/
import Derived.Test.YtgnmbgbiajgpeaaDoorTpa
namespace Go.Proofs.YtgnmbgbiajgpeaaDoor
open Go Go.RowKit
set_option linter.unusedVariables false
set_option linter.unusedSimpArgs false

set_option maxRecDepth 100000 in
set_option maxHeartbeats 4000000 in
theorem Climb21_ok (leaf : Str) (hleaf : leaf.length = 32) : ∀ (rp : List Str) (R : Rd) (hG : ShaG R) (i n : Nat) (v3 : Value), i < n → n ≤ 1000000000 → Small rp.reverse → Ss R v3 rp.reverse → (upR leaf rp i n).2 = true →
    Fn Tryd.prog 54 [.string ⟨⟨leaf⟩⟩, .int .i64 i, .int .i64 n, v3] [] R (fun v h => v = .string ⟨⟨(upR leaf rp i n).1⟩⟩ ∧ h = []) := by
  intro rp
  induction rp with
  | nil =>
    intro R hG i n v3 hi hn hsm hs hok
    obtain ⟨A, cap, rfl, hc, hsr⟩ := hs
    obtain rfl : n = 1 := by
      by_cases h1 : n = 1
      · exact h1
      · rw [upR_niln _ _ h1] at hok; cases hok
    refine fn_of_vc mixed tabOk Tryd.func54 rfl (by kernel_rfl) (Nat.le_of_ble_eq_true rfl) ?_
    repeat (first | (refine ⟨fun h => ?_, fun h => ?_⟩; rotate_left 1; (focus (exfalso; (first | (with_reducible (cases h; done)) | (revert h; simp; done) | (revert h; simp; omega) | (revert h; simp [*]; done)))); clear h) | (refine ⟨fun h => ?_, fun h => ?_⟩; (focus (exfalso; (first | (with_reducible (cases h; done)) | (revert h; simp; done) | (revert h; simp; omega) | (revert h; simp [*]; done)))); clear h))
    refine ⟨_, Ent.refl _, ?_, rfl⟩
    rw [upR_nil1]; rfl
  | cons last rest ih =>
    intro R hG i n v3 hi hn hsm hs hok
    obtain ⟨A, cap, rfl, hc, hsr⟩ := hs
    have hs : Ss R (.slice A (last :: rest).reverse.length cap) (last :: rest).reverse := ⟨A, cap, rfl, hc, hsr⟩
    have hlr : (last :: rest).reverse.length = rest.length + 1 := by rw [List.length_reverse, List.length_cons]
    have hbig := hsm.1
    have hn1 : n ≠ 1 := by
      rintro rfl
      rw [upR_one] at hok; cases hok
    have h2 : 2 ≤ n := by omega
    have hn1' : ¬ ((n : Nat) : Int) = 1 := by omega
    obtain ⟨a, ha, hr⟩ := hsr.one (i := rest.length) (by omega)
    rw [rev_get] at hr
    have hbel := hs.take (k := rest.length) (by omega)
    rw [rev_take] at hbel
    have hsm' := hsm.rest
    have hlast := hsm.last
    have hul := upR_sum hleaf rest
    rw [hlr]
    clear hs hsr hsm
    refine fn_of_vc mixed tabOk Tryd.func54 rfl (by kernel_rfl) (Nat.le_of_ble_eq_true rfl) ?_
    repeat (first | (refine ⟨fun h => ?_, fun h => ?_⟩; rotate_left 1; (focus (exfalso; (first | (with_reducible (cases h; done)) | (revert h; simp; done) | (revert h; simp; omega) | (revert h; simp [*]; done)))); clear h) | (refine ⟨fun h => ?_, fun h => ?_⟩; (focus (exfalso; (first | (with_reducible (cases h; done)) | (revert h; simp; done) | (revert h; simp; omega) | (revert h; simp [*]; done)))); clear h))
    refine ⟨[none, none, none, none, none, none, none, none, none, some 9, none, none, none, none, none, none, none, none, none, none, some 20, some 21, some 22, some 23, some 24, some 25, some 26], [9], Nat × Nat, fun ⟨k, e⟩ => k = 2 ^ e ∧ k < n, fun ⟨k, _⟩ => [.int .i64 k], fun _ => [], fun ⟨k, _⟩ => n - k, (1, 0), ⟨rfl, by omega⟩, ⟨rfl, trivial⟩, Ent.refl _, ?_⟩
    rintro ⟨k, e⟩ ⟨hk, hkn⟩ js
    have hk : k = 2 ^ e := hk
    have hkn : k < n := hkn
    have hp := Nat.two_pow_pos e
    (intro z hz; obtain rfl : z = ((n - k : Nat) : Int) := (by first | (rw [IntKind.wrap_i64] at hz; omega) | (rw [IntKind.wrap_u64] at hz; omega) | omega); clear hz)
    refine ⟨fun hb => ?_, fun hb => ?_⟩
    · replace hb := of_decide_eq_true hb
      (intro z hz; obtain rfl : z = ((2 * k : Nat) : Int) := (by first | (rw [IntKind.wrap_i64] at hz; omega) | (rw [IntKind.wrap_u64] at hz; omega) | omega); clear hz)
      refine ⟨rfl, (2 * k, e + 1), ⟨by rw [hk, Nat.pow_succ, Nat.mul_comm], by omega⟩, by show n - 2 * k < n - k; omega, ⟨rfl, trivial⟩, Ent.refl _, rfl⟩
    replace hb := of_decide_eq_false hb
    have hsp := splitN_unique hk hkn (by omega)
    have hk0 : 0 < k := by omega
    clear hk
    refine ⟨[], lexT 0 13, by kernel_rfl, ?_⟩
    (intro z hz; obtain rfl : z = ((rest.length : Nat) : Int) := (by first | (rw [IntKind.wrap_i64] at hz; omega) | (rw [IntKind.wrap_u64] at hz; omega) | omega); clear hz)
    refine ⟨by omega, by omega, a, ha, _, .inl hr, ?_⟩
    (intro z hz; obtain rfl : z = ((rest.length : Nat) : Int) := (by first | (rw [IntKind.wrap_i64] at hz; omega) | (rw [IntKind.wrap_u64] at hz; omega) | omega); clear hz)
    refine ⟨0, rest.length, rfl, rfl, by omega, by omega, ?_⟩
    by_cases hik : i < k
    · have hE := upR_lo leaf last rest (i := i) hn1 (by rw [← hsp]; exact hik)
      rw [← hsp] at hE
      rw [hE] at hok ⊢
      have hok : (upR leaf rest i k).2 = true := hok
      repeat (first | (refine ⟨fun h => ?_, fun h => ?_⟩; rotate_left 1; (focus (exfalso; (first | (with_reducible (cases h; done)) | (revert h; simp; done) | (revert h; simp; omega) | (revert h; simp [*]; done)))); clear h) | (refine ⟨fun h => ?_, fun h => ?_⟩; (focus (exfalso; (first | (with_reducible (cases h; done)) | (revert h; simp; done) | (revert h; simp; omega) | (revert h; simp [*]; done)))); clear h))
      refine ⟨[], _, ih _ (hG.rh _) i k _ hik (by omega) hsm' (hbel.rh _) hok, ?_⟩
      rintro _ _ ⟨rfl, rfl⟩
      refine ⟨[], _, Node_ok _ (hG.rh _) _ _ (by have := hul i k hok; omega) (by omega), ?_⟩
      rintro _ _ ⟨rfl, rfl⟩
      exact ⟨_, Ent.refl _, rfl, rfl⟩
    · have hE := upR_hi leaf last rest (i := i) hn1 (by rw [← hsp]; exact hik)
      rw [← hsp] at hE
      rw [hE] at hok ⊢
      have hok : (upR leaf rest (i - k) (n - k)).2 = true := hok
      repeat (first | (refine ⟨fun h => ?_, fun h => ?_⟩; rotate_left 1; (focus (exfalso; (first | (with_reducible (cases h; done)) | (revert h; simp; done) | (revert h; simp; omega) | (revert h; simp [*]; done)))); clear h) | (refine ⟨fun h => ?_, fun h => ?_⟩; (focus (exfalso; (first | (with_reducible (cases h; done)) | (revert h; simp; done) | (revert h; simp; omega) | (revert h; simp [*]; done)))); clear h))
      (intro z hz; obtain rfl : z = ((i - k : Nat) : Int) := (by first | (rw [IntKind.wrap_i64] at hz; omega) | (rw [IntKind.wrap_u64] at hz; omega) | omega); clear hz)
      (intro z hz; obtain rfl : z = ((n - k : Nat) : Int) := (by first | (rw [IntKind.wrap_i64] at hz; omega) | (rw [IntKind.wrap_u64] at hz; omega) | omega); clear hz)
      refine ⟨[], _, ih _ (hG.rh _) (i - k) (n - k) _ (by omega) (by omega) hsm' (hbel.rh _) hok, ?_⟩
      rintro _ _ ⟨rfl, rfl⟩
      refine ⟨[], _, Node_ok _ (hG.rh _) _ _ (by omega) (by have := hul (i - k) (n - k) hok; omega), ?_⟩
      rintro _ _ ⟨rfl, rfl⟩
      exact ⟨_, Ent.refl _, rfl, rfl⟩

set_option maxRecDepth 100000 in
set_option maxHeartbeats 4000000 in
theorem Reaches21_ok : ∀ (rp : List Str) (R : Rd) (hG : ShaG R) (leaves : List Str) (leaf : Str) (i : Nat) (v0 v3 : Value), Acc leaves leaf i rp → Small leaves → Ss R v0 leaves → Small rp.reverse → Ss R v3 rp.reverse →
    Fn Tryd.prog 25 [v0, .string ⟨⟨leaf⟩⟩, .int .i64 i, v3] [] R (fun v h => v = .bool true ∧ h = []) := by
  intro rp
  induction rp with
  | nil =>
    intro R hG leaves leaf i v0 v3 hA hsl hl hsm hs
    have h1 := hA.nil
    have hone := hA.one h1
    obtain ⟨A, cap, rfl, hc, hsr⟩ := hl
    obtain ⟨x, rfl, hx⟩ := hsr.one (i := 0) (by omega)
    rw [← hone] at hx
    rw [h1]
    refine fn_of_vc mixed tabOk Tryd.func25 rfl (by kernel_rfl) (Nat.le_of_ble_eq_true rfl) ?_
    repeat (first | (refine ⟨fun h => ?_, fun h => ?_⟩; rotate_left 1; (focus (exfalso; (first | (with_reducible (cases h; done)) | (revert h; simp; done) | (revert h; simp; omega) | (revert h; simp [*]; done)))); clear h) | (refine ⟨fun h => ?_, fun h => ?_⟩; (focus (exfalso; (first | (with_reducible (cases h; done)) | (revert h; simp; done) | (revert h; simp; omega) | (revert h; simp [*]; done)))); clear h))
    refine ⟨by decide, by decide, x, rfl, _, .inl hx, ?_⟩
    refine ⟨_, Ent.refl _, ?_, rfl⟩
    show Value.bool (decide (leaf = leaf)) = _
    rw [decide_eq_true rfl]
  | cons last rest ih =>
    intro R hG leaves leaf i v0 v3 hA hsl hl hsm hs
    have hilt := hA.lt
    have h2 : 2 ≤ leaves.length := by
      rcases Nat.lt_or_ge leaves.length 2 with h | h
      · have h1 : leaves.length = 1 := by omega
        have := hA.ok
        rw [h1, upR_one] at this; cases this
      · exact h
    have hlen := hsl.1
    obtain ⟨LA, lc, rfl, hlc, hlsr⟩ := hl
    have hl : Ss R (.slice LA leaves.length lc) leaves := ⟨LA, lc, rfl, hlc, hlsr⟩
    obtain ⟨A, cap, rfl, hc, hsr⟩ := hs
    have hs : Ss R (.slice A (last :: rest).reverse.length cap) (last :: rest).reverse := ⟨A, cap, rfl, hc, hsr⟩
    have hlr : (last :: rest).reverse.length = rest.length + 1 := by rw [List.length_reverse, List.length_cons]
    have hbig := hsm.1
    obtain ⟨a, ha, hr⟩ := hsr.one (i := rest.length) (by omega)
    rw [rev_get] at hr
    have hbel := hs.take (k := rest.length) (by omega)
    rw [rev_take] at hbel
    have hsm' := hsm.rest
    have hlast := hsm.last
    have hul := upR_sum hA.lf rest
    have hlf := hA.lf
    rw [hlr]
    have hne : ¬ ((leaves.length : Nat) : Int) = 1 := by omega
    refine fn_of_vc mixed tabOk Tryd.func25 rfl (by kernel_rfl) (Nat.le_of_ble_eq_true rfl) ?_
    repeat (first | (refine ⟨fun h => ?_, fun h => ?_⟩; rotate_left 1; (focus (exfalso; (first | (with_reducible (cases h; done)) | (revert h; simp; done) | (revert h; simp; omega) | (revert h; simp [*]; done)))); clear h) | (refine ⟨fun h => ?_, fun h => ?_⟩; (focus (exfalso; (first | (with_reducible (cases h; done)) | (revert h; simp; done) | (revert h; simp; omega) | (revert h; simp [*]; done)))); clear h))
    refine ⟨[none, none, none, none, none, none, none, none, none, some 9, none, none, none, none, none, none, none, none, none, none, none, none, none, none, none, none, some 26, some 27, some 28, some 29, some 30, some 31, some 32, some 33], [9], Nat × Nat, fun ⟨k, e⟩ => k = 2 ^ e ∧ k < leaves.length, fun ⟨k, _⟩ => [.int .i64 k], fun _ => [], fun ⟨k, _⟩ => leaves.length - k, (1, 0), ⟨rfl, by omega⟩, ⟨rfl, trivial⟩, Ent.refl _, ?_⟩
    rintro ⟨k, e⟩ ⟨hk, hkn⟩ js
    have hk : k = 2 ^ e := hk
    have hkn : k < leaves.length := hkn
    have hp := Nat.two_pow_pos e
    (intro z hz; obtain rfl : z = ((leaves.length - k : Nat) : Int) := (by first | (rw [IntKind.wrap_i64] at hz; omega) | (rw [IntKind.wrap_u64] at hz; omega) | omega); clear hz)
    refine ⟨fun hb => ?_, fun hb => ?_⟩
    · replace hb := of_decide_eq_true hb
      (intro z hz; obtain rfl : z = ((2 * k : Nat) : Int) := (by first | (rw [IntKind.wrap_i64] at hz; omega) | (rw [IntKind.wrap_u64] at hz; omega) | omega); clear hz)
      refine ⟨rfl, (2 * k, e + 1), ⟨by rw [hk, Nat.pow_succ, Nat.mul_comm], by omega⟩, by show leaves.length - 2 * k < leaves.length - k; omega, ⟨rfl, trivial⟩, Ent.refl _, rfl⟩
    replace hb := of_decide_eq_false hb
    have hsp := splitN_unique hk hkn (by omega)
    have hk0 : 0 < k := by omega
    clear hk
    have hrl := (hsl.take k).root
    have hrl2 := (hsl.drop k).root
    have hta := hl.take (k := k) (by omega)
    have hda := hl.drop (k := k) (by omega)
    refine ⟨[], lexT 0 13, by kernel_rfl, ?_⟩
    (intro z hz; obtain rfl : z = ((rest.length : Nat) : Int) := (by first | (rw [IntKind.wrap_i64] at hz; omega) | (rw [IntKind.wrap_u64] at hz; omega) | omega); clear hz)
    refine ⟨by omega, by omega, a, ha, _, .inl hr, ?_⟩
    (intro z hz; obtain rfl : z = ((rest.length : Nat) : Int) := (by first | (rw [IntKind.wrap_i64] at hz; omega) | (rw [IntKind.wrap_u64] at hz; omega) | omega); clear hz)
    refine ⟨0, rest.length, rfl, rfl, by omega, by omega, ?_⟩
    refine ⟨[], (.q 0 (.q 1 (.q 2 (.q 5 (.q 6 (.q 7 (.one 3 (.q 4 (.one 8 (.q 9 (.q 10 .nil))))))))))), by kernel_rfl, ?_⟩
    refine ⟨0, k, rfl, rfl, by omega, by omega, ?_⟩
    refine ⟨k, leaves.length, rfl, rfl, by omega, by omega, ?_⟩
    refine ⟨[], _, Root_ok _ ((hG.rh _).rh _) _ (leaves.take k) _ rfl (hsl.take _) ((hta.rh _).rh _), ?_⟩
    rintro _ _ ⟨rfl, rfl⟩
    refine ⟨add1_15 hrl, ?_⟩
    refine ⟨[], _, Root_ok _ ((hG.rh _).rh _) _ (leaves.drop k) _ rfl (hsl.drop _) ((hda.rh _).rh _), ?_⟩
    rintro _ _ ⟨rfl, rfl⟩
    refine ⟨add2_15 hrl hrl2, ?_⟩
    by_cases hik : i < k
    · obtain ⟨q1, q2, q3⟩ := hA.lo h2 (by rw [← hsp]; exact hik)
      rw [← hsp] at q1 q2 q3
      have hu : (upR leaf rest i k).1.length ≤ 1000000 := by rw [hul i k q1]; decide
      repeat (first | (refine ⟨fun h => ?_, fun h => ?_⟩; rotate_left 1; (focus (exfalso; (first | (with_reducible (cases h; done)) | (revert h; simp; done) | (revert h; simp; omega) | (revert h; simp [*]; done)))); clear h) | (refine ⟨fun h => ?_, fun h => ?_⟩; (focus (exfalso; (first | (with_reducible (cases h; done)) | (revert h; simp; done) | (revert h; simp; omega) | (revert h; simp [*]; done)))); clear h))
      refine ⟨[], _, Climb21_ok leaf hlf rest _ (hG.rh _) i k _ hik (by omega) hsm' (hbel.rh _) q1, ?_⟩
      rintro _ _ ⟨rfl, rfl⟩
      refine ⟨add1_15 hu, ?_⟩
      refine ⟨add2_15 hu hlast, ?_⟩
      obtain ⟨x, hx⟩ : ∃ x : Str, x = [1] ++ (upR leaf rest i k).1 ++ last := ⟨_, rfl⟩
      obtain ⟨y, hy⟩ : ∃ y : Str, y = [1] ++ rootOf (leaves.take k) ++ rootOf (leaves.drop k) := ⟨_, rfl⟩
      have hxl : x.length ≤ 1000000000 := by rw [hx, List.length_append, List.length_append]; show 1 + _ + _ ≤ _; omega
      have hyl : y.length ≤ 1000000000 := by rw [hy, List.length_append, List.length_append]; show 1 + _ + _ ≤ _; omega
      rw [← hx, ← hy] at q2 q3 ⊢
      clear hx hy
      by_cases c : x = y
      · have hA2 := q3 c
        repeat (first | (refine ⟨fun h => ?_, fun h => ?_⟩; rotate_left 1; (focus (exfalso; (first | (with_reducible (cases h; done)) | (revert h; simp; done) | (revert h; simp; omega) | (revert h; simp [*]; done)))); clear h) | (refine ⟨fun h => ?_, fun h => ?_⟩; (focus (exfalso; (first | (with_reducible (cases h; done)) | (revert h; simp; done) | (revert h; simp; omega) | (revert h; simp [*]; done)))); clear h))
        refine ⟨0, k, rfl, rfl, by omega, by omega, ?_⟩
        repeat (first | (refine ⟨fun h => ?_, fun h => ?_⟩; rotate_left 1; (focus (exfalso; (first | (with_reducible (cases h; done)) | (revert h; simp; done) | (revert h; simp; omega) | (revert h; simp [*]; done)))); clear h) | (refine ⟨fun h => ?_, fun h => ?_⟩; (focus (exfalso; (first | (with_reducible (cases h; done)) | (revert h; simp; done) | (revert h; simp; omega) | (revert h; simp [*]; done)))); clear h))
        refine ⟨[], _, ih _ (hG.rh _) (leaves.take k) leaf i _ _ hA2 (hsl.take _) (hta.rh _) hsm' (hbel.rh _), ?_⟩
        rintro _ _ ⟨rfl, rfl⟩
        repeat (first | (refine ⟨fun h => ?_, fun h => ?_⟩; rotate_left 1; (focus (exfalso; (first | (with_reducible (cases h; done)) | (revert h; simp; done) | (revert h; simp; omega) | (revert h; simp [*]; done)))); clear h) | (refine ⟨fun h => ?_, fun h => ?_⟩; (focus (exfalso; (first | (with_reducible (cases h; done)) | (revert h; simp; done) | (revert h; simp; omega) | (revert h; simp [*]; done)))); clear h))
        exact ⟨_, Ent.refl _, rfl, rfl⟩
      · repeat (first | (refine ⟨fun h => ?_, fun h => ?_⟩; rotate_left 1; (focus (exfalso; (first | (with_reducible (cases h; done)) | (revert h; simp; done) | (revert h; simp; omega) | (revert h; simp [*]; done)))); clear h) | (refine ⟨fun h => ?_, fun h => ?_⟩; (focus (exfalso; (first | (with_reducible (cases h; done)) | (revert h; simp; done) | (revert h; simp; omega) | (revert h; simp [*]; done)))); clear h))
        refine ⟨[], _, Collides15_ok _ (hG.rh _) x y hxl hyl, ?_⟩
        rintro _ _ ⟨rfl, rfl⟩
        rw [decide_eq_true (show x ≠ y ∧ sha x = sha y from ⟨c, q2⟩)]
        repeat (first | (refine ⟨fun h => ?_, fun h => ?_⟩; rotate_left 1; (focus (exfalso; (first | (with_reducible (cases h; done)) | (revert h; simp; done) | (revert h; simp; omega) | (revert h; simp [*]; done)))); clear h) | (refine ⟨fun h => ?_, fun h => ?_⟩; (focus (exfalso; (first | (with_reducible (cases h; done)) | (revert h; simp; done) | (revert h; simp; omega) | (revert h; simp [*]; done)))); clear h))
        exact ⟨_, Ent.nil _, rfl, rfl⟩
    · obtain ⟨q1, q2, q3⟩ := hA.hi h2 (by rw [← hsp]; exact hik)
      rw [← hsp] at q1 q2 q3
      have hu : (upR leaf rest (i - k) (leaves.length - k)).1.length ≤ 1000000 := by rw [hul (i - k) (leaves.length - k) q1]; decide
      repeat (first | (refine ⟨fun h => ?_, fun h => ?_⟩; rotate_left 1; (focus (exfalso; (first | (with_reducible (cases h; done)) | (revert h; simp; done) | (revert h; simp; omega) | (revert h; simp [*]; done)))); clear h) | (refine ⟨fun h => ?_, fun h => ?_⟩; (focus (exfalso; (first | (with_reducible (cases h; done)) | (revert h; simp; done) | (revert h; simp; omega) | (revert h; simp [*]; done)))); clear h))
      refine ⟨add1_15 hlast, ?_⟩
      (intro z hz; obtain rfl : z = ((i - k : Nat) : Int) := (by first | (rw [IntKind.wrap_i64] at hz; omega) | (rw [IntKind.wrap_u64] at hz; omega) | omega); clear hz)
      (intro z hz; obtain rfl : z = ((leaves.length - k : Nat) : Int) := (by first | (rw [IntKind.wrap_i64] at hz; omega) | (rw [IntKind.wrap_u64] at hz; omega) | omega); clear hz)
      refine ⟨[], _, Climb21_ok leaf hlf rest _ (hG.rh _) (i - k) (leaves.length - k) _ (by omega) (by omega) hsm' (hbel.rh _) q1, ?_⟩
      rintro _ _ ⟨rfl, rfl⟩
      refine ⟨add2_15 hlast hu, ?_⟩
      obtain ⟨x, hx⟩ : ∃ x : Str, x = [1] ++ last ++ (upR leaf rest (i - k) (leaves.length - k)).1 := ⟨_, rfl⟩
      obtain ⟨y, hy⟩ : ∃ y : Str, y = [1] ++ rootOf (leaves.take k) ++ rootOf (leaves.drop k) := ⟨_, rfl⟩
      have hxl : x.length ≤ 1000000000 := by rw [hx, List.length_append, List.length_append]; show 1 + _ + _ ≤ _; omega
      have hyl : y.length ≤ 1000000000 := by rw [hy, List.length_append, List.length_append]; show 1 + _ + _ ≤ _; omega
      rw [← hx, ← hy] at q2 q3 ⊢
      clear hx hy
      by_cases c : x = y
      · have hA2 := q3 c
        repeat (first | (refine ⟨fun h => ?_, fun h => ?_⟩; rotate_left 1; (focus (exfalso; (first | (with_reducible (cases h; done)) | (revert h; simp; done) | (revert h; simp; omega) | (revert h; simp [*]; done)))); clear h) | (refine ⟨fun h => ?_, fun h => ?_⟩; (focus (exfalso; (first | (with_reducible (cases h; done)) | (revert h; simp; done) | (revert h; simp; omega) | (revert h; simp [*]; done)))); clear h))
        refine ⟨k, leaves.length, rfl, rfl, by omega, by omega, ?_⟩
        repeat (first | (refine ⟨fun h => ?_, fun h => ?_⟩; rotate_left 1; (focus (exfalso; (first | (with_reducible (cases h; done)) | (revert h; simp; done) | (revert h; simp; omega) | (revert h; simp [*]; done)))); clear h) | (refine ⟨fun h => ?_, fun h => ?_⟩; (focus (exfalso; (first | (with_reducible (cases h; done)) | (revert h; simp; done) | (revert h; simp; omega) | (revert h; simp [*]; done)))); clear h))
        (intro z hz; obtain rfl : z = ((i - k : Nat) : Int) := (by first | (rw [IntKind.wrap_i64] at hz; omega) | (rw [IntKind.wrap_u64] at hz; omega) | omega); clear hz)
        repeat (first | (refine ⟨fun h => ?_, fun h => ?_⟩; rotate_left 1; (focus (exfalso; (first | (with_reducible (cases h; done)) | (revert h; simp; done) | (revert h; simp; omega) | (revert h; simp [*]; done)))); clear h) | (refine ⟨fun h => ?_, fun h => ?_⟩; (focus (exfalso; (first | (with_reducible (cases h; done)) | (revert h; simp; done) | (revert h; simp; omega) | (revert h; simp [*]; done)))); clear h))
        refine ⟨[], _, ih _ (hG.rh _) (leaves.drop k) leaf (i - k) _ _ hA2 (hsl.drop _) (hda.rh _) hsm' (hbel.rh _), ?_⟩
        rintro _ _ ⟨rfl, rfl⟩
        repeat (first | (refine ⟨fun h => ?_, fun h => ?_⟩; rotate_left 1; (focus (exfalso; (first | (with_reducible (cases h; done)) | (revert h; simp; done) | (revert h; simp; omega) | (revert h; simp [*]; done)))); clear h) | (refine ⟨fun h => ?_, fun h => ?_⟩; (focus (exfalso; (first | (with_reducible (cases h; done)) | (revert h; simp; done) | (revert h; simp; omega) | (revert h; simp [*]; done)))); clear h))
        exact ⟨_, Ent.refl _, rfl, rfl⟩
      · repeat (first | (refine ⟨fun h => ?_, fun h => ?_⟩; rotate_left 1; (focus (exfalso; (first | (with_reducible (cases h; done)) | (revert h; simp; done) | (revert h; simp; omega) | (revert h; simp [*]; done)))); clear h) | (refine ⟨fun h => ?_, fun h => ?_⟩; (focus (exfalso; (first | (with_reducible (cases h; done)) | (revert h; simp; done) | (revert h; simp; omega) | (revert h; simp [*]; done)))); clear h))
        refine ⟨[], _, Collides15_ok _ (hG.rh _) x y hxl hyl, ?_⟩
        rintro _ _ ⟨rfl, rfl⟩
        rw [decide_eq_true (show x ≠ y ∧ sha x = sha y from ⟨c, q2⟩)]
        repeat (first | (refine ⟨fun h => ?_, fun h => ?_⟩; rotate_left 1; (focus (exfalso; (first | (with_reducible (cases h; done)) | (revert h; simp; done) | (revert h; simp; omega) | (revert h; simp [*]; done)))); clear h) | (refine ⟨fun h => ?_, fun h => ?_⟩; (focus (exfalso; (first | (with_reducible (cases h; done)) | (revert h; simp; done) | (revert h; simp; omega) | (revert h; simp [*]; done)))); clear h))
        exact ⟨_, Ent.nil _, rfl, rfl⟩

end Go.Proofs.YtgnmbgbiajgpeaaDoor
