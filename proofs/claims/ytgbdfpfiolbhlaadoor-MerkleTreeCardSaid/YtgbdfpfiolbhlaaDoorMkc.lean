/-
  Contracts: sums, paths that are climbed, Verify (package merkle and its reference).
-/
import Derived.Test.YtgbdfpfiolbhlaaDoorMkb
namespace Go.Proofs.YtgbdfpfiolbhlaaDoor
open Go Go.RowKit
set_option linter.unusedVariables false

theorem isSum_ok (R : Rd) (s : Str) : Fn Tryd.prog 63 [.string ⟨⟨s⟩⟩] [] R (fun v h => v = .bool (decide ((s.length : Int) = 32)) ∧ h = []) := by
  refine fn_of_vc mixed tabOk Tryd.func63 rfl (by kernel_rfl) (Nat.le_of_ble_eq_true rfl) ?_
  exact ⟨_, Ent.refl _, rfl, rfl⟩

theorem sumsB_take {l : List Str} {i : Nat} (h : i < l.length) : sumsB (l.take (i + 1)) = (sumsB (l.take i) && ((l.getD i []).length == 32)) := by
  rw [List.take_add_one, List.getD_eq_getElem?_getD, List.getElem?_eq_getElem h]
  simp only [sumsB, List.all_append, Option.toList_some, List.all_cons, List.all_nil, Bool.and_true, Option.getD_some]
theorem sumsB_false {l : List Str} {i : Nat} (h : i < l.length) (hf : ¬ (l.getD i []).length = 32) : sumsB l = false := by
  rw [List.getD_eq_getElem?_getD, List.getElem?_eq_getElem h] at hf
  unfold sumsB
  rw [List.all_eq_false]
  exact ⟨l[i], List.getElem_mem _, by simpa using hf⟩

theorem areSums_ok (R : Rd) (l : List Str) (v0 : Value) (hl : l.length ≤ 9223372036854775807) (hs : SsR R v0 l) : Fn Tryd.prog 64 [v0] [] R (fun v h => v = .bool (sumsB l) ∧ h = []) := by
  obtain ⟨A, cap, rfl⟩ := hs.form
  refine fn_of_vc mixed tabOk Tryd.func64 rfl (by kernel_rfl) (Nat.le_of_ble_eq_true rfl) ?_
  refine ⟨[none, none, some 2, none, some 4, none, none, some 7, some 8, some 9, some 10, some 11, some 12, some 13, some 14], [7], Nat, fun i => i ≤ l.length ∧ sumsB (l.take i) = true, fun i => [.int .i64 i], fun _ => [], fun i => l.length - i, 0, ⟨Nat.zero_le _, rfl⟩, ⟨rfl, trivial⟩, Ent.refl _, ?_⟩
  rintro i ⟨hi, hsi⟩ js
  refine ⟨fun hb => ?_, fun hb => ?_⟩
  · replace hb := of_decide_eq_true hb
    have hil : i < l.length := by omega
    clear hb
    obtain ⟨a, ha, hr⟩ := hs.one hil
    refine ⟨by omega, by omega, a, ha, _, .inl hr, ?_⟩
    refine ⟨[], _, isSum_ok _ _, ?_⟩
    rintro _ _ ⟨rfl, rfl⟩
    refine ⟨fun hb => ?_, fun hb => ?_⟩
    · replace hb := of_decide_eq_false (Bool.not_eq_true' _ ▸ hb)
      replace hb : ¬ ((l.getD i []).length : Int) = 32 := hb
      refine ⟨_, Ent.refl _, ?_, rfl⟩
      rw [sumsB_false hil (by omega)]; rfl
    · replace hb := of_decide_eq_true (Bool.not_eq_false' _ ▸ hb)
      (intro z hz; obtain rfl : z = ((i + 1 : Nat) : Int) := (by first | (rw [IntKind.wrap_i64] at hz; omega) | (rw [IntKind.wrap_u64] at hz; omega) | omega); clear hz)
      refine ⟨rfl, i + 1, ⟨hil, ?_⟩, by show l.length - (i + 1) < l.length - i; omega, ⟨rfl, trivial⟩, Ent.refl _, rfl⟩
      replace hb : ((l.getD i []).length : Int) = 32 := hb
      rw [sumsB_take hil, hsi, Bool.true_and, beq_iff_eq]
      omega
  · replace hb := of_decide_eq_false hb
    obtain rfl : i = l.length := by omega
    refine ⟨_, Ent.refl _, ?_, rfl⟩
    rw [List.take_length] at hsi
    rw [hsi]; rfl

theorem refSums_ok (R : Rd) (l : List Str) (v0 : Value) (hl : l.length ≤ 9223372036854775807) (hs : SsR R v0 l) : Fn Tryd.prog 29 [v0] [] R (fun v h => v = .bool (sumsB l) ∧ h = []) := by
  obtain ⟨A, cap, rfl⟩ := hs.form
  refine fn_of_vc mixed tabOk Tryd.func29 rfl (by kernel_rfl) (Nat.le_of_ble_eq_true rfl) ?_
  refine ⟨[none, none, some 2, none, some 4, none, none, some 7, some 8, some 9, some 10, some 11, some 12, some 13, some 14], [7], Nat, fun i => i ≤ l.length ∧ sumsB (l.take i) = true, fun i => [.int .i64 i], fun _ => [], fun i => l.length - i, 0, ⟨Nat.zero_le _, rfl⟩, ⟨rfl, trivial⟩, Ent.refl _, ?_⟩
  rintro i ⟨hi, hsi⟩ js
  refine ⟨fun hb => ?_, fun hb => ?_⟩
  · replace hb := of_decide_eq_true hb
    have hil : i < l.length := by omega
    clear hb
    obtain ⟨a, ha, hr⟩ := hs.one hil
    refine ⟨by omega, by omega, a, ha, _, .inl hr, ?_⟩
    refine ⟨fun hb => ?_, fun hb => ?_⟩
    · replace hb := of_decide_eq_false (Bool.not_eq_true' _ ▸ hb)
      replace hb : ¬ ((l.getD i []).length : Int) = 32 := hb
      refine ⟨_, Ent.refl _, ?_, rfl⟩
      rw [sumsB_false hil (by omega)]; rfl
    · replace hb := of_decide_eq_true (Bool.not_eq_false' _ ▸ hb)
      (intro z hz; obtain rfl : z = ((i + 1 : Nat) : Int) := (by first | (rw [IntKind.wrap_i64] at hz; omega) | (rw [IntKind.wrap_u64] at hz; omega) | omega); clear hz)
      refine ⟨rfl, i + 1, ⟨hil, ?_⟩, by show l.length - (i + 1) < l.length - i; omega, ⟨rfl, trivial⟩, Ent.refl _, rfl⟩
      replace hb : ((l.getD i []).length : Int) = 32 := hb
      rw [sumsB_take hil, hsi, Bool.true_and, beq_iff_eq]
      omega
  · replace hb := of_decide_eq_false hb
    obtain rfl : i = l.length := by omega
    refine ⟨_, Ent.refl _, ?_, rfl⟩
    rw [List.take_length] at hsi
    rw [hsi]; rfl

theorem upR_len {leaf : Str} (hl : leaf.length ≤ 1000000) : ∀ (rp : List Str) (i n : Nat), (upR leaf rp i n).1.length ≤ 1000000
  | [], i, n => by
    unfold upR
    split
    · exact hl
    · simp
  | last :: rest, i, n => by
    unfold upR
    split
    · exact hl
    · split
      · show (nodeOf _ _).length ≤ _; rw [nodeOf_length]; omega
      · show (nodeOf _ _).length ≤ _; rw [nodeOf_length]; omega

theorem upR_nil1 (leaf : Str) (i : Nat) : upR leaf [] i 1 = (leaf, true) := by simp [upR]
theorem upR_niln (leaf : Str) (i : Nat) {n : Nat} (h : n ≠ 1) : upR leaf [] i n = ([], false) := by simp [upR, h]
theorem upR_one (leaf last : Str) (rest : List Str) (i : Nat) : upR leaf (last :: rest) i 1 = (leaf, false) := by simp [upR]
theorem upR_lo (leaf last : Str) (rest : List Str) {i n : Nat} (h : n ≠ 1) (hi : i < splitN n) : upR leaf (last :: rest) i n = (nodeOf (upR leaf rest i (splitN n)).1 last, (upR leaf rest i (splitN n)).2) := by
  rw [upR, if_neg h, if_pos hi]
theorem upR_hi (leaf last : Str) (rest : List Str) {i n : Nat} (h : n ≠ 1) (hi : ¬ i < splitN n) : upR leaf (last :: rest) i n = (nodeOf last (upR leaf rest (i - splitN n) (n - splitN n)).1, (upR leaf rest (i - splitN n) (n - splitN n)).2) := by
  rw [upR, if_neg h, if_neg hi]

theorem rev_take {last : Str} {rest : List Str} : (last :: rest).reverse.take rest.length = rest.reverse := by
  rw [List.reverse_cons, List.take_append_of_le_length (by rw [List.length_reverse]; exact Nat.le_refl _), List.take_of_length_le (by rw [List.length_reverse]; exact Nat.le_refl _)]
theorem rev_get {last : Str} {rest : List Str} : (last :: rest).reverse.getD rest.length [] = last := by
  rw [List.getD_eq_getElem?_getD, List.reverse_cons, List.getElem?_append_right (by rw [List.length_reverse]; exact Nat.le_refl _), List.length_reverse, Nat.sub_self]; rfl
theorem Small.rest {last : Str} {rest : List Str} (h : Small (last :: rest).reverse) : Small rest.reverse := by
  have := h.take rest.length
  rwa [rev_take] at this
theorem Small.last {last : Str} {rest : List Str} (h : Small (last :: rest).reverse) : last.length ≤ 1000000 := h.2 last (by simp)

set_option maxRecDepth 100000 in
theorem climb_ok (leaf : Str) (hleaf : leaf.length ≤ 1000000) : ∀ (rp : List Str) (R : Rd) (hG : ShaG R) (i n : Nat) (v3 : Value), i < n → n ≤ 9223372036854775807 → Small rp.reverse → Ss R v3 rp.reverse →
    Fn Tryd.prog 65 [.string ⟨⟨leaf⟩⟩, .int .i64 i, .int .i64 n, v3] [] R (fun v h => v = .tuple ⟨[.string ⟨⟨(upR leaf rp i n).1⟩⟩, .bool (upR leaf rp i n).2]⟩ ∧ h = []) := by
  intro rp
  induction rp with
  | nil =>
    intro R hG i n v3 hi hn hsm hs
    obtain ⟨A, cap, rfl, hc, hsr⟩ := hs
    refine fn_of_vc mixed tabOk Tryd.func65 rfl (by kernel_rfl) (Nat.le_of_ble_eq_true rfl) ?_
    refine ⟨fun hb => ?_, fun hb => ?_⟩
    · replace hb := of_decide_eq_true hb
      obtain rfl : n = 1 := by omega
      refine ⟨_, Ent.refl _, ?_, rfl⟩
      rw [upR_nil1]; rfl
    · replace hb := of_decide_eq_false hb
      have hn1 : n ≠ 1 := by omega
      clear hb
      refine ⟨fun _ => ?_, fun h => (by cases h)⟩
      refine ⟨_, Ent.refl _, ?_, rfl⟩
      rw [upR_niln _ _ hn1]; rfl
  | cons last rest ih =>
    intro R hG i n v3 hi hn hsm hs
    obtain ⟨A, cap, rfl, hc, hsr⟩ := hs
    have hs : Ss R (.slice A (last :: rest).reverse.length cap) (last :: rest).reverse := ⟨A, cap, rfl, hc, hsr⟩
    have hlr : (last :: rest).reverse.length = rest.length + 1 := by rw [List.length_reverse, List.length_cons]
    have hbig := hsm.1
    refine fn_of_vc mixed tabOk Tryd.func65 rfl (by kernel_rfl) (Nat.le_of_ble_eq_true rfl) ?_
    refine ⟨fun hb => ?_, fun hb => ?_⟩
    · replace hb := of_decide_eq_true hb
      obtain rfl : n = 1 := by omega
      refine ⟨_, Ent.refl _, ?_, rfl⟩
      rw [upR_one]
      show Value.tuple ⟨[_, .bool (decide _)]⟩ = _
      rw [decide_eq_false (by omega)]
    · replace hb := of_decide_eq_false hb
      have hn1 : n ≠ 1 := by omega
      have h2 : 2 ≤ n := by omega
      clear hb
      refine ⟨fun h => (by have := of_decide_eq_true h; omega), fun _ => ?_⟩
      have hk := splitN_lt h2
      have hk0 := splitN_pos n
      obtain ⟨a, ha, hr⟩ := hsr.one (i := rest.length) (by omega)
      rw [rev_get] at hr
      have hbel := hs.take (k := rest.length) (by omega)
      rw [rev_take] at hbel
      refine ⟨[], lexT 0 13, by kernel_rfl, ?_⟩
      (intro z hz; obtain rfl : z = ((rest.length : Nat) : Int) := (by first | (rw [IntKind.wrap_i64] at hz; omega) | (rw [IntKind.wrap_u64] at hz; omega) | omega); clear hz)
      refine ⟨0, rest.length, rfl, rfl, by omega, by omega, ?_⟩
      (intro z hz; obtain rfl : z = ((rest.length : Nat) : Int) := (by first | (rw [IntKind.wrap_i64] at hz; omega) | (rw [IntKind.wrap_u64] at hz; omega) | omega); clear hz)
      refine ⟨by omega, by omega, a, ha, _, .inl hr, ?_⟩
      refine ⟨[], _, split_ok _ n h2 hn, ?_⟩
      rintro _ _ ⟨rfl, rfl⟩
      refine ⟨fun hb => ?_, fun hb => ?_⟩
      · replace hb := of_decide_eq_true hb
        have hik : i < splitN n := by omega
        clear hb
        refine ⟨[], _, ih _ (hG.rh _) i (splitN n) _ hik (by omega) hsm.rest (hbel.rh _), ?_⟩
        rintro _ _ ⟨rfl, rfl⟩
        refine ⟨[], _, Node_ok _ (hG.rh _) _ _ (by have := upR_len hleaf rest i (splitN n); omega) (by have := hsm.last; omega), ?_⟩
        rintro _ _ ⟨rfl, rfl⟩
        refine ⟨_, Ent.refl _, ?_, rfl⟩
        rw [upR_lo _ _ _ hn1 hik]; rfl
      · replace hb := of_decide_eq_false hb
        have hik : ¬ i < splitN n := by omega
        clear hb
        (intro z hz; obtain rfl : z = ((i - splitN n : Nat) : Int) := (by first | (rw [IntKind.wrap_i64] at hz; omega) | (rw [IntKind.wrap_u64] at hz; omega) | omega); clear hz)
        (intro z hz; obtain rfl : z = ((n - splitN n : Nat) : Int) := (by first | (rw [IntKind.wrap_i64] at hz; omega) | (rw [IntKind.wrap_u64] at hz; omega) | omega); clear hz)
        refine ⟨[], _, ih _ (hG.rh _) (i - splitN n) (n - splitN n) _ (by omega) (by omega) hsm.rest (hbel.rh _), ?_⟩
        rintro _ _ ⟨rfl, rfl⟩
        refine ⟨[], _, Node_ok _ (hG.rh _) _ _ (by have := hsm.last; omega) (by have := upR_len hleaf rest (i - splitN n) (n - splitN n); omega), ?_⟩
        rintro _ _ ⟨rfl, rfl⟩
        refine ⟨_, Ent.refl _, ?_, rfl⟩
        rw [upR_hi _ _ _ hn1 hik]; rfl

set_option maxRecDepth 100000 in
theorem refup_ok (leaf : Str) (hleaf : leaf.length ≤ 1000000) : ∀ (rp : List Str) (R : Rd) (i n : Nat) (v3 : Value), i < n → n ≤ 9223372036854775807 → Small rp.reverse → Ss R v3 rp.reverse →
    Fn Tryd.prog 66 [.string ⟨⟨leaf⟩⟩, .int .i64 i, .int .i64 n, v3] [] R (fun v h => v = .tuple ⟨[.string ⟨⟨(upR leaf rp i n).1⟩⟩, .bool (upR leaf rp i n).2]⟩ ∧ h = []) := by
  intro rp
  induction rp with
  | nil =>
    intro R i n v3 hi hn hsm hs
    obtain ⟨A, cap, rfl, hc, hsr⟩ := hs
    refine fn_of_vc mixed tabOk Tryd.func66 rfl (by kernel_rfl) (Nat.le_of_ble_eq_true rfl) ?_
    refine ⟨fun hb => ?_, fun hb => ?_⟩
    · replace hb := of_decide_eq_true hb
      obtain rfl : n = 1 := by omega
      refine ⟨_, Ent.refl _, ?_, rfl⟩
      rw [upR_nil1]; rfl
    · replace hb := of_decide_eq_false hb
      have hn1 : n ≠ 1 := by omega
      clear hb
      refine ⟨fun _ => ?_, fun h => (by cases h)⟩
      refine ⟨_, Ent.refl _, ?_, rfl⟩
      rw [upR_niln _ _ hn1]; rfl
  | cons last rest ih =>
    intro R i n v3 hi hn hsm hs
    obtain ⟨A, cap, rfl, hc, hsr⟩ := hs
    have hs : Ss R (.slice A (last :: rest).reverse.length cap) (last :: rest).reverse := ⟨A, cap, rfl, hc, hsr⟩
    have hlr : (last :: rest).reverse.length = rest.length + 1 := by rw [List.length_reverse, List.length_cons]
    have hbig := hsm.1
    refine fn_of_vc mixed tabOk Tryd.func66 rfl (by kernel_rfl) (Nat.le_of_ble_eq_true rfl) ?_
    refine ⟨fun hb => ?_, fun hb => ?_⟩
    · replace hb := of_decide_eq_true hb
      obtain rfl : n = 1 := by omega
      refine ⟨_, Ent.refl _, ?_, rfl⟩
      rw [upR_one]
      show Value.tuple ⟨[_, .bool (decide _)]⟩ = _
      rw [decide_eq_false (by omega)]
    · replace hb := of_decide_eq_false hb
      have hn1 : n ≠ 1 := by omega
      have h2 : 2 ≤ n := by omega
      clear hb
      refine ⟨fun h => (by have := of_decide_eq_true h; omega), fun _ => ?_⟩
      have hk := splitN_lt h2
      have hk0 := splitN_pos n
      obtain ⟨a, ha, hr⟩ := hsr.one (i := rest.length) (by omega)
      rw [rev_get] at hr
      have hbel := hs.take (k := rest.length) (by omega)
      rw [rev_take] at hbel
      refine ⟨[], lexT 0 13, by kernel_rfl, ?_⟩
      (intro z hz; obtain rfl : z = ((rest.length : Nat) : Int) := (by first | (rw [IntKind.wrap_i64] at hz; omega) | (rw [IntKind.wrap_u64] at hz; omega) | omega); clear hz)
      refine ⟨by omega, by omega, a, ha, _, .inl hr, ?_⟩
      (intro z hz; obtain rfl : z = ((rest.length : Nat) : Int) := (by first | (rw [IntKind.wrap_i64] at hz; omega) | (rw [IntKind.wrap_u64] at hz; omega) | omega); clear hz)
      refine ⟨0, rest.length, rfl, rfl, by omega, by omega, ?_⟩
      refine ⟨[], _, Split_ok _ n h2 hn, ?_⟩
      rintro _ _ ⟨rfl, rfl⟩
      refine ⟨fun hb => ?_, fun hb => ?_⟩
      · replace hb := of_decide_eq_true hb
        have hik : i < splitN n := by omega
        clear hb
        refine ⟨[], _, ih _ i (splitN n) _ hik (by omega) hsm.rest (hbel.rh _), ?_⟩
        rintro _ _ ⟨rfl, rfl⟩
        refine ⟨[], _, refNode_ok _ _ _ (by have := upR_len hleaf rest i (splitN n); omega) (by have := hsm.last; omega), ?_⟩
        rintro _ _ ⟨rfl, rfl⟩
        refine ⟨_, Ent.refl _, ?_, rfl⟩
        rw [upR_lo _ _ _ hn1 hik]; rfl
      · replace hb := of_decide_eq_false hb
        have hik : ¬ i < splitN n := by omega
        clear hb
        (intro z hz; obtain rfl : z = ((i - splitN n : Nat) : Int) := (by first | (rw [IntKind.wrap_i64] at hz; omega) | (rw [IntKind.wrap_u64] at hz; omega) | omega); clear hz)
        (intro z hz; obtain rfl : z = ((n - splitN n : Nat) : Int) := (by first | (rw [IntKind.wrap_i64] at hz; omega) | (rw [IntKind.wrap_u64] at hz; omega) | omega); clear hz)
        refine ⟨[], _, ih _ (i - splitN n) (n - splitN n) _ (by omega) (by omega) hsm.rest (hbel.rh _), ?_⟩
        rintro _ _ ⟨rfl, rfl⟩
        refine ⟨[], _, refNode_ok _ _ _ (by have := hsm.last; omega) (by have := upR_len hleaf rest (i - splitN n) (n - splitN n); omega), ?_⟩
        rintro _ _ ⟨rfl, rfl⟩
        refine ⟨_, Ent.refl _, ?_, rfl⟩
        rw [upR_hi _ _ _ hn1 hik]; rfl


end Go.Proofs.YtgbdfpfiolbhlaaDoor
