/-
  Transfer: the reference's list of what is hashed.
-/
import Derived.Test.YtoddabjacjkjbaaDoorTga
import Derived.Test.YtoddabjacjkjbaaDoorTri
namespace Go.Proofs.YtoddabjacjkjbaaDoor
open Go Go.RowKit
set_option linter.unusedVariables false
set_option linter.unusedSimpArgs false

theorem preR_len (x : Str) : ∀ (p : List Str) (i n : Nat), 1 ≤ (preR x p i n).length ∧ (preR x p i n).length ≤ p.length + 1
  | [], i, n => ⟨Nat.le_refl _, Nat.le_refl _⟩
  | a :: p, i, n => by
    rw [preR]
    split
    · exact ⟨Nat.le_refl _, by show 1 ≤ _; omega⟩
    · split
      · have := preR_len x p i (splitN n)
        simp only [List.length_append, List.length_cons, List.length_nil]; omega
      · have := preR_len x p (i - splitN n) (n - splitN n)
        simp only [List.length_append, List.length_cons, List.length_nil]; omega

theorem preR_u (x : Str) (hx : x.length ≤ 1000000) : ∀ (p : List Str) (i n : Nat), (∀ s ∈ p, s.length ≤ 1000000) → ((preR x p i n).getLastD []).length ≤ 1000100
  | [], i, n, _ => by show x.length + 1 ≤ _; omega
  | a :: p, i, n, h => by
    have ha := h a (by simp)
    rw [preR]
    split
    · show x.length + 1 ≤ _; omega
    · split
      · rw [last_snoc, List.length_cons, List.length_append, sha_length]; omega
      · rw [last_snoc, List.length_cons, List.length_append, sha_length]; omega
theorem sv_last {R : Rd} {h : Hp} (k : Nat) {g n cap : Nat} {q : List Str} {e : TypeId} (hk : h[k]? = some (.row (some ⟨g, 0, .none⟩) n cap e 1 (SV q) (0, 0))) (hq : 1 ≤ q.length) : RH R h (addA (⟨g, 0, .none⟩ : Addr) (Int.toNat ((q.length - 1 : Nat) : Int) * 1)) (.string ⟨⟨q.getLastD []⟩⟩) := by
  rw [toNat1, ← addA_eq, add_zero_addr]
  refine ldr k hk ?_
  unfold SV
  rw [List.getElem?_map, ← List.getLast?_eq_getElem?, List.getLastD_eq_getLast?]
  cases hl : q.getLast? with
  | none => rw [List.getLast?_eq_none_iff] at hl; rw [hl] at hq; exact absurd hq (by decide)
  | some u => rfl
set_option maxRecDepth 100000 in
set_option maxHeartbeats 1000000 in
theorem rPre_ok (x : Str) (hx : x.length ≤ 1000000) : ∀ (rp : List Str) (R : Rd) (i n : Nat) (v3 v4 : Value), i < n → n ≤ 1000000 → Small rp.reverse → rp.length ≤ 1000 → Bs R v3 x → Ss R v4 rp.reverse →
    Fn Tryd.prog 105 [.int .i64 i, .int .i64 n, v3, v4] [] R (fun v h => ∃ A cap, v = .slice A (preR x rp i n).length cap ∧ h = [.row A (preR x rp i n).length cap 9 1 (SV (preR x rp i n)) (0, 0)] ∧ grow (preR x rp i n).length A) := by
  have hML := maxLen_eq
  intro rp
  induction rp with
  | nil =>
    intro R i n v3 v4 hi hn hsm hl hd hs
    obtain ⟨A, cap, rfl, hc, hsr⟩ := hs
    obtain ⟨D, dc, rfl, hdc, hdr⟩ := hd
    refine fn_of_vc mixed tabOk Tryd.func105 rfl (by kernel_rfl) (Nat.le_of_ble_eq_true rfl) ?_
    by_cases h1 : n ≤ 1
    · repeat (first | (refine ⟨fun h => ?_, fun h => ?_⟩; rotate_left 1; (focus (exfalso; (first | (with_reducible (cases h; done)) | (revert h; simp; done) | (revert h; simp; omega) | (revert h; simp [*]; done)))); clear h) | (refine ⟨fun h => ?_, fun h => ?_⟩; (focus (exfalso; (first | (with_reducible (cases h; done)) | (revert h; simp; done) | (revert h; simp; omega) | (revert h; simp [*]; done)))); clear h))
      refine ⟨x, rfl, fun j b hb => (hdr.rh _).at_ hb, ?_⟩
      refine ⟨by show 1 + x.length ≤ _; omega, ?_⟩
      refine ⟨rfl, fun g => ?_⟩
      exact ⟨_, Ent.refl _, _, _, rfl, rfl, .inr ⟨g, rfl⟩⟩
    · repeat (first | (refine ⟨fun h => ?_, fun h => ?_⟩; rotate_left 1; (focus (exfalso; (first | (with_reducible (cases h; done)) | (revert h; simp; done) | (revert h; simp; omega) | (revert h; simp [*]; done)))); clear h) | (refine ⟨fun h => ?_, fun h => ?_⟩; (focus (exfalso; (first | (with_reducible (cases h; done)) | (revert h; simp; done) | (revert h; simp; omega) | (revert h; simp [*]; done)))); clear h))
      refine ⟨x, rfl, fun j b hb => (hdr.rh _).at_ hb, ?_⟩
      refine ⟨by show 1 + x.length ≤ _; omega, ?_⟩
      refine ⟨rfl, fun g => ?_⟩
      exact ⟨_, Ent.refl _, _, _, rfl, rfl, .inr ⟨g, rfl⟩⟩
  | cons last rest ih =>
    intro R i n v3 v4 hi hn hsm hl hd hs
    obtain ⟨A, cap, rfl, hc, hsr⟩ := hs
    have hs : Ss R (.slice A (last :: rest).reverse.length cap) (last :: rest).reverse := ⟨A, cap, rfl, hc, hsr⟩
    have hlr : (last :: rest).reverse.length = rest.length + 1 := by rw [List.length_reverse, List.length_cons]
    have hlast := hsm.last
    have hl2 : rest.length ≤ 999 := by rw [List.length_cons] at hl; omega
    have hd2 := hd
    obtain ⟨D, dc, rfl, hdc, hdr⟩ := hd2
    refine fn_of_vc mixed tabOk Tryd.func105 rfl (by kernel_rfl) (Nat.le_of_ble_eq_true rfl) ?_
    by_cases h1 : n ≤ 1
    · repeat (first | (refine ⟨fun h => ?_, fun h => ?_⟩; rotate_left 1; (focus (exfalso; (first | (with_reducible (cases h; done)) | (revert h; simp; done) | (revert h; simp; omega) | (revert h; simp [*]; done)))); clear h) | (refine ⟨fun h => ?_, fun h => ?_⟩; (focus (exfalso; (first | (with_reducible (cases h; done)) | (revert h; simp; done) | (revert h; simp; omega) | (revert h; simp [*]; done)))); clear h))
      refine ⟨x, rfl, fun j b hb => (hdr.rh _).at_ hb, ?_⟩
      refine ⟨by show 1 + x.length ≤ _; omega, ?_⟩
      refine ⟨rfl, fun g => ?_⟩
      rw [preR, if_pos h1]
      exact ⟨_, Ent.refl _, _, _, rfl, rfl, .inr ⟨g, rfl⟩⟩
    · have h2 : 2 ≤ n := by omega
      have hk := splitN_lt h2
      have hk0 := splitN_pos n
      repeat (first | (refine ⟨fun h => ?_, fun h => ?_⟩; rotate_left 1; (focus (exfalso; (first | (with_reducible (cases h; done)) | (revert h; simp; done) | (revert h; simp; omega) | (revert h; simp [*]; done)))); clear h) | (refine ⟨fun h => ?_, fun h => ?_⟩; (focus (exfalso; (first | (with_reducible (cases h; done)) | (revert h; simp; done) | (revert h; simp; omega) | (revert h; simp [*]; done)))); clear h))
      obtain ⟨a0, ha0, hr⟩ := hsr.one (i := rest.length) (by omega)
      rw [rev_get] at hr
      have hbel := hs.take (k := rest.length) (by omega)
      rw [rev_take] at hbel
      refine ⟨[], (.q 0 (.q 2 (.q 3 (.q 4 (.q 5 (.q 6 (.q 7 (.one 1 (.q 8 (.q 9 .nil)))))))))), by kernel_rfl, ?_⟩
      (intro z hz; obtain rfl : z = ((rest.length : Nat) : Int) := (by first | (rw [IntKind.wrap_i64] at hz; omega) | (rw [IntKind.wrap_u64] at hz; omega) | omega); clear hz)
      refine ⟨by omega, by omega, a0, ha0, _, .inl hr, ?_⟩
      refine ⟨[], _, Split_ok _ n h2 (by omega), ?_⟩
      rintro _ _ ⟨rfl, rfl⟩
      by_cases hik : i < splitN n
      · repeat (first | (refine ⟨fun h => ?_, fun h => ?_⟩; rotate_left 1; (focus (exfalso; (first | (with_reducible (cases h; done)) | (revert h; simp; done) | (revert h; simp; omega) | (revert h; simp [*]; done)))); clear h) | (refine ⟨fun h => ?_, fun h => ?_⟩; (focus (exfalso; (first | (with_reducible (cases h; done)) | (revert h; simp; done) | (revert h; simp; omega) | (revert h; simp [*]; done)))); clear h))
        (intro z hz; obtain rfl : z = ((rest.length : Nat) : Int) := (by first | (rw [IntKind.wrap_i64] at hz; omega) | (rw [IntKind.wrap_u64] at hz; omega) | omega); clear hz)
        refine ⟨0, rest.length, rfl, rfl, by omega, by omega, ?_⟩
        refine ⟨[], _, ih _ i (splitN n) _ _ hik (by omega) hsm.rest (by omega) (hd.rh _) (hbel.rh _), ?_⟩
        rintro _ _ ⟨A1, c1, rfl, rfl, hg1⟩
        have hq := preR_len x rest i (splitN n)
        have hu := preR_u x hx rest i (splitN n) fun s hs => hsm.rest.2 s (List.mem_reverse.2 hs)
        rw [p_cons x last rest i h1, if_pos hik]
        generalize preR x rest i (splitN n) = q at hg1 hq hu ⊢
        obtain ⟨g1, rfl⟩ : ∃ g, A1 = some ⟨g, 0, .none⟩ := by
          rcases hg1 with h | ⟨g, h⟩
          · omega
          · exact ⟨g, h⟩
        (intro z hz; obtain rfl : z = ((q.length - 1 : Nat) : Int) := (by first | (rw [IntKind.wrap_i64] at hz; omega) | (rw [IntKind.wrap_u64] at hz; omega) | omega); clear hz)
        refine ⟨by omega, by omega, _, rfl, _, sv_last 0 rfl hq.1, ?_⟩
        generalize q.getLastD [] = u at hu ⊢
        refine ⟨by show u.length ≤ _; omega, fun g2 c2 => ?_⟩
        refine ⟨[], _, refSum_ok _ u _ (by omega) (SlR.own (xs := BV u) 1 rfl (by rw [BV_length, Nat.mul_one]) (.inr ⟨g2, rfl⟩)), ?_⟩
        rintro _ _ ⟨rfl, rfl⟩
        have hsl := sha_length u
        generalize sha u = su at hsl ⊢
        refine ⟨by show 1 + su.length ≤ _; omega, ?_⟩
        refine ⟨by show (1 :: su).length + last.length ≤ _; rw [List.length_cons]; omega, ?_⟩
        refine ⟨rfl, fun g3 => ?_⟩
        refine ⟨SV [1 :: (su ++ last)], rfl, slr_src (SlR.own 2 rfl rfl (.inr ⟨g3, rfl⟩)), rfl, by show (_ + 1) * 16 ≤ _; omega, by omega, .inr ⟨0, rfl, rfl, rfl, rfl, rfl, rfl, fun A3 c3 hg3 => ?_⟩⟩
        refine ⟨_, Ent.pick [0] rfl, A3, c3, ?_, ?_, ?_⟩
        · rw [List.length_append]; rfl
        · rw [List.length_append]; unfold SV; rw [List.map_append]; rfl
        · rw [List.length_append]; exact hg3
      · repeat (first | (refine ⟨fun h => ?_, fun h => ?_⟩; rotate_left 1; (focus (exfalso; (first | (with_reducible (cases h; done)) | (revert h; simp; done) | (revert h; simp; omega) | (revert h; simp [*]; done)))); clear h) | (refine ⟨fun h => ?_, fun h => ?_⟩; (focus (exfalso; (first | (with_reducible (cases h; done)) | (revert h; simp; done) | (revert h; simp; omega) | (revert h; simp [*]; done)))); clear h))
        (intro z hz; obtain rfl : z = ((i - splitN n : Nat) : Int) := (by first | (rw [IntKind.wrap_i64] at hz; omega) | (rw [IntKind.wrap_u64] at hz; omega) | omega); clear hz)
        (intro z hz; obtain rfl : z = ((n - splitN n : Nat) : Int) := (by first | (rw [IntKind.wrap_i64] at hz; omega) | (rw [IntKind.wrap_u64] at hz; omega) | omega); clear hz)
        (intro z hz; obtain rfl : z = ((rest.length : Nat) : Int) := (by first | (rw [IntKind.wrap_i64] at hz; omega) | (rw [IntKind.wrap_u64] at hz; omega) | omega); clear hz)
        refine ⟨0, rest.length, rfl, rfl, by omega, by omega, ?_⟩
        refine ⟨[], _, ih _ (i - splitN n) (n - splitN n) _ _ (by omega) (by omega) hsm.rest (by omega) (hd.rh _) (hbel.rh _), ?_⟩
        rintro _ _ ⟨A1, c1, rfl, rfl, hg1⟩
        have hq := preR_len x rest (i - splitN n) (n - splitN n)
        have hu := preR_u x hx rest (i - splitN n) (n - splitN n) fun s hs => hsm.rest.2 s (List.mem_reverse.2 hs)
        rw [p_cons x last rest i h1, if_neg hik]
        generalize preR x rest (i - splitN n) (n - splitN n) = q at hg1 hq hu ⊢
        obtain ⟨g1, rfl⟩ : ∃ g, A1 = some ⟨g, 0, .none⟩ := by
          rcases hg1 with h | ⟨g, h⟩
          · omega
          · exact ⟨g, h⟩
        refine ⟨by show 1 + last.length ≤ _; omega, ?_⟩
        (intro z hz; obtain rfl : z = ((q.length - 1 : Nat) : Int) := (by first | (rw [IntKind.wrap_i64] at hz; omega) | (rw [IntKind.wrap_u64] at hz; omega) | omega); clear hz)
        refine ⟨by omega, by omega, _, rfl, _, sv_last 0 rfl hq.1, ?_⟩
        generalize q.getLastD [] = u at hu ⊢
        refine ⟨by show u.length ≤ _; omega, fun g2 c2 => ?_⟩
        refine ⟨[], _, refSum_ok _ u _ (by omega) (SlR.own (xs := BV u) 1 rfl (by rw [BV_length, Nat.mul_one]) (.inr ⟨g2, rfl⟩)), ?_⟩
        rintro _ _ ⟨rfl, rfl⟩
        have hsl := sha_length u
        generalize sha u = su at hsl ⊢
        refine ⟨by show (1 :: last).length + su.length ≤ _; rw [List.length_cons]; omega, ?_⟩
        refine ⟨rfl, fun g3 => ?_⟩
        refine ⟨SV [1 :: (last ++ su)], rfl, slr_src (SlR.own 2 rfl rfl (.inr ⟨g3, rfl⟩)), rfl, by show (_ + 1) * 16 ≤ _; omega, by omega, .inr ⟨0, rfl, rfl, rfl, rfl, rfl, rfl, fun A3 c3 hg3 => ?_⟩⟩
        refine ⟨_, Ent.pick [0] rfl, A3, c3, ?_, ?_, ?_⟩
        · rw [List.length_append]; rfl
        · rw [List.length_append]; unfold SV; rw [List.map_append]; rfl
        · rw [List.length_append]; exact hg3

end Go.Proofs.YtoddabjacjkjbaaDoor
