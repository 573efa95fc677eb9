/-
  Transfer: the law's clash finds what is known to clash.
-/
import Derived.Test.YtoddabjacjkjbaaDoorTgb
namespace Go.Proofs.YtoddabjacjkjbaaDoor
open Go Go.RowKit
set_option linter.unusedVariables false
set_option linter.unusedSimpArgs false

theorem preR_all (x : Str) (hx : x.length ≤ 1000000) : ∀ (p : List Str) (i n : Nat), (∀ s ∈ p, s.length ≤ 1000000) → ∀ s ∈ preR x p i n, s.length ≤ 1000100
  | [], i, n, _, s, hs => by
    rw [preR, List.mem_singleton] at hs
    subst hs; show x.length + 1 ≤ _; omega
  | a :: p, i, n, h, s, hs => by
    have ha := h a (by simp)
    have hp : ∀ s ∈ p, s.length ≤ 1000000 := fun s hs => h s (by simp [hs])
    rw [preR] at hs
    split at hs
    · rw [List.mem_singleton] at hs
      subst hs; show x.length + 1 ≤ _; omega
    · split at hs
      · rcases List.mem_append.1 hs with hs | hs
        · exact preR_all x hx p _ _ hp s hs
        · rw [List.mem_singleton] at hs
          subst hs; rw [List.length_cons, List.length_append, sha_length]; omega
      · rcases List.mem_append.1 hs with hs | hs
        · exact preR_all x hx p _ _ hp s hs
        · rw [List.mem_singleton] at hs
          subst hs; rw [List.length_cons, List.length_append, sha_length]; omega
theorem sv_at {R : Rd} {h : Hp} (i : Nat) {g n cap : Nat} {q : List Str} {e : TypeId} (hi : h[i]? = some (.row (some ⟨g, 0, .none⟩) n cap e 1 (SV q) (0, 0))) {j : Nat} {s : Str} (hs : q[j]? = some s) : RH R h (addA (⟨g, 0, .none⟩ : Addr) (Int.toNat (j : Int) * 1)) (.string ⟨⟨s⟩⟩) := by
  rw [toNat1, ← addA_eq, add_zero_addr]
  exact ldr i hi (SV_get hs)
set_option maxRecDepth 100000 in
set_option maxHeartbeats 4000000 in
theorem clash_ok (R : Rd) (x y : Str) (p q : List Str) (i n : Nat) (v2 v3 v4 v5 : Value) (hx : x.length ≤ 1000000) (hy : y.length ≤ 1000000) (hi : i < n) (hn : n ≤ 1000000) (hsp : Small p) (hsq : Small q) (hlp : p.length ≤ 1000) (hlq : q.length ≤ 1000)
    (hd2 : Bs R v2 x) (hd3 : Bs R v3 y) (hs4 : Ss R v4 p) (hs5 : Ss R v5 q) (hc : Clash (preR x p.reverse i n) (preR y q.reverse i n)) :
    Fn Tryd.prog 43 [.int .i64 i, .int .i64 n, v2, v3, v4, v5] [] R (fun v h => v = .bool true ∧ h = []) := by
  have hML := maxLen_eq
  have rp := List.reverse_reverse p
  have rq := List.reverse_reverse q
  have ua := preR_all x hx p.reverse i n fun s hs => hsp.2 s (List.mem_reverse.1 hs)
  have ub := preR_all y hy q.reverse i n fun s hs => hsq.2 s (List.mem_reverse.1 hs)
  have la := (preR_len x p.reverse i n).2
  rw [List.length_reverse] at la
  refine fn_of_vc mixed tabOk Tryd.func43 rfl (by kernel_rfl) (Nat.le_of_ble_eq_true rfl) ?_
  refine ⟨[], _, rPre_ok x hx p.reverse _ i n v2 v4 hi hn (by rw [rp]; exact hsp) (by rw [List.length_reverse]; exact hlp) (hd2.rh _) (by rw [rp]; exact hs4.rh _), ?_⟩
  rintro _ _ ⟨A, ca, rfl, rfl, hgA⟩
  refine ⟨[], _, rPre_ok y hy q.reverse _ i n v3 v5 hi hn (by rw [rq]; exact hsq) (by rw [List.length_reverse]; exact hlq) (hd3.rh _) (by rw [rq]; exact hs5.rh _), ?_⟩
  rintro _ _ ⟨B, cb, rfl, rfl, hgB⟩
  generalize preR x p.reverse i n = a at hgA hc ua la ⊢
  generalize preR y q.reverse i n = b at hgB hc ub ⊢
  obtain ⟨K, u, v, ha, hb, huv, hsuv⟩ := hc
  have hKa := (List.getElem?_eq_some_iff.1 ha).1
  have hKb := (List.getElem?_eq_some_iff.1 hb).1
  obtain ⟨ga, rfl⟩ := growA hgA (by omega)
  obtain ⟨gb, rfl⟩ := growA hgB (by omega)
  refine ⟨[none, none, none, none, none, none, none, none, none, none, none, none, some 12, none, none, some 15, none, none, none, none, none, none, none, none, none, none, some 26, some 27, some 28, some 29, some 30, some 31, some 32, some 33, some 34, some 35, some 36, some 37, some 38, some 39, some 40, some 41, some 42, some 43, some 44, some 45, some 46, some 47, some 48, some 49, some 50, some 51, some 52, some 53, some 54, some 55, some 56, some 57, some 58, some 59, some 60, some 61], [15], Nat, fun k => k ≤ K, fun k => [.int .i64 k], fun _ => [.row (some ⟨ga, 0, .none⟩) a.length ca 9 1 (SV a) (0, 0), .row (some ⟨gb, 0, .none⟩) b.length cb 9 1 (SV b) (0, 0)], fun k => K - k, 0, Nat.zero_le _, ⟨rfl, trivial⟩, Ent.refl _, ?_⟩
  intro k hk js
  have hk : k ≤ K := hk
  repeat (first | (refine ⟨fun h => ?_, fun h => ?_⟩; rotate_left 1; (focus (exfalso; (first | (with_reducible (cases h; done)) | (revert h; simp; done) | (revert h; simp; omega) | (revert h; simp [*]; done)))); clear h) | (refine ⟨fun h => ?_, fun h => ?_⟩; (focus (exfalso; (first | (with_reducible (cases h; done)) | (revert h; simp; done) | (revert h; simp; omega) | (revert h; simp [*]; done)))); clear h))
  obtain ⟨s, hs⟩ : ∃ s, a[k]? = some s := ⟨_, List.getElem?_eq_getElem (by omega)⟩
  obtain ⟨t, ht⟩ : ∃ t, b[k]? = some t := ⟨_, List.getElem?_eq_getElem (by omega)⟩
  have us := ua s (List.mem_of_getElem? hs)
  have ut := ub t (List.mem_of_getElem? ht)
  refine ⟨[0,0], (.q 0 (.q 1 (.q 2 (.q 3 (.q 4 (.q 5 (.q 6 (.q 7 (.q 8 (.q 9 (.q 10 (.q 11 (.q 12 (.q 13 (.q 16 (.q 17 (.q 18 (.q 19 (.two 14 (.two 15 (.one 20 (.one 21 (.q 22 (.q 23 .nil)))) 20 (.one 15 (.one 21 (.q 22 (.q 23 .nil))))) 20 (.one 14 (.one 15 (.one 21 (.q 22 (.q 23 .nil)))))))))))))))))))))))), by kernel_rfl, ?_⟩
  refine ⟨by omega, by omega, _, rfl, ?_⟩
  refine ⟨_, sv_at 0 rfl hs, ?_⟩
  refine ⟨by omega, by omega, _, rfl, ?_⟩
  refine ⟨_, sv_at 1 rfl ht, ?_⟩
  by_cases e : s = t
  · have hlt : k < K := by
      rcases Nat.lt_or_ge k K with h | h
      · exact h
      · obtain rfl : k = K := by omega
        rw [hs] at ha; rw [ht] at hb
        cases ha; cases hb
        exact absurd e huv
    repeat (first | (refine ⟨fun h => ?_, fun h => ?_⟩; rotate_left 1; (focus (exfalso; (first | (with_reducible (cases h; done)) | (revert h; simp; done) | (revert h; simp; omega) | (revert h; simp [*]; done)))); clear h) | (refine ⟨fun h => ?_, fun h => ?_⟩; (focus (exfalso; (first | (with_reducible (cases h; done)) | (revert h; simp; done) | (revert h; simp; omega) | (revert h; simp [*]; done)))); clear h))
    refine ⟨?_, ?_⟩
    · repeat (first | (refine ⟨fun h => ?_, fun h => ?_⟩; rotate_left 1; (focus (exfalso; (first | (with_reducible (cases h; done)) | (revert h; simp; done) | (revert h; simp; omega) | (revert h; simp [*]; done)))); clear h) | (refine ⟨fun h => ?_, fun h => ?_⟩; (focus (exfalso; (first | (with_reducible (cases h; done)) | (revert h; simp; done) | (revert h; simp; omega) | (revert h; simp [*]; done)))); clear h))
      refine ⟨?_, ?_⟩
      · repeat (first | (refine ⟨fun h => ?_, fun h => ?_⟩; rotate_left 1; (focus (exfalso; (first | (with_reducible (cases h; done)) | (revert h; simp; done) | (revert h; simp; omega) | (revert h; simp [*]; done)))); clear h) | (refine ⟨fun h => ?_, fun h => ?_⟩; (focus (exfalso; (first | (with_reducible (cases h; done)) | (revert h; simp; done) | (revert h; simp; omega) | (revert h; simp [*]; done)))); clear h))
        (intro z hz; obtain rfl : z = ((k + 1 : Nat) : Int) := (by first | (rw [IntKind.wrap_i64] at hz; omega) | (rw [IntKind.wrap_u64] at hz; omega) | omega); clear hz)
        exact ⟨rfl, k + 1, hlt, by show K - (k + 1) < K - k; omega, ⟨rfl, trivial⟩, Ent.pick [0, 0] rfl, rfl⟩
      · repeat (first | (refine ⟨fun h => ?_, fun h => ?_⟩; rotate_left 1; (focus (exfalso; (first | (with_reducible (cases h; done)) | (revert h; simp; done) | (revert h; simp; omega) | (revert h; simp [*]; done)))); clear h) | (refine ⟨fun h => ?_, fun h => ?_⟩; (focus (exfalso; (first | (with_reducible (cases h; done)) | (revert h; simp; done) | (revert h; simp; omega) | (revert h; simp [*]; done)))); clear h))
        (intro z hz; obtain rfl : z = ((k + 1 : Nat) : Int) := (by first | (rw [IntKind.wrap_i64] at hz; omega) | (rw [IntKind.wrap_u64] at hz; omega) | omega); clear hz)
        exact ⟨rfl, k + 1, hlt, by show K - (k + 1) < K - k; omega, ⟨rfl, trivial⟩, Ent.pick [0, 0] rfl, rfl⟩
    · repeat (first | (refine ⟨fun h => ?_, fun h => ?_⟩; rotate_left 1; (focus (exfalso; (first | (with_reducible (cases h; done)) | (revert h; simp; done) | (revert h; simp; omega) | (revert h; simp [*]; done)))); clear h) | (refine ⟨fun h => ?_, fun h => ?_⟩; (focus (exfalso; (first | (with_reducible (cases h; done)) | (revert h; simp; done) | (revert h; simp; omega) | (revert h; simp [*]; done)))); clear h))
      (intro z hz; obtain rfl : z = ((k + 1 : Nat) : Int) := (by first | (rw [IntKind.wrap_i64] at hz; omega) | (rw [IntKind.wrap_u64] at hz; omega) | omega); clear hz)
      exact ⟨rfl, k + 1, hlt, by show K - (k + 1) < K - k; omega, ⟨rfl, trivial⟩, Ent.pick [0, 0] rfl, rfl⟩
  · repeat (first | (refine ⟨fun h => ?_, fun h => ?_⟩; rotate_left 1; (focus (exfalso; (first | (with_reducible (cases h; done)) | (revert h; simp; done) | (revert h; simp; omega) | (revert h; simp [*]; done)))); clear h) | (refine ⟨fun h => ?_, fun h => ?_⟩; (focus (exfalso; (first | (with_reducible (cases h; done)) | (revert h; simp; done) | (revert h; simp; omega) | (revert h; simp [*]; done)))); clear h))
    refine ⟨by omega, by omega, _, rfl, ?_⟩
    repeat (first | (refine ⟨fun h => ?_, fun h => ?_⟩; rotate_left 1; (focus (exfalso; (first | (with_reducible (cases h; done)) | (revert h; simp; done) | (revert h; simp; omega) | (revert h; simp [*]; done)))); clear h) | (refine ⟨fun h => ?_, fun h => ?_⟩; (focus (exfalso; (first | (with_reducible (cases h; done)) | (revert h; simp; done) | (revert h; simp; omega) | (revert h; simp [*]; done)))); clear h))
    refine ⟨_, sv_at 0 rfl hs, ?_⟩
    repeat (first | (refine ⟨fun h => ?_, fun h => ?_⟩; rotate_left 1; (focus (exfalso; (first | (with_reducible (cases h; done)) | (revert h; simp; done) | (revert h; simp; omega) | (revert h; simp [*]; done)))); clear h) | (refine ⟨fun h => ?_, fun h => ?_⟩; (focus (exfalso; (first | (with_reducible (cases h; done)) | (revert h; simp; done) | (revert h; simp; omega) | (revert h; simp [*]; done)))); clear h))
    refine ⟨by omega, by omega, _, rfl, ?_⟩
    repeat (first | (refine ⟨fun h => ?_, fun h => ?_⟩; rotate_left 1; (focus (exfalso; (first | (with_reducible (cases h; done)) | (revert h; simp; done) | (revert h; simp; omega) | (revert h; simp [*]; done)))); clear h) | (refine ⟨fun h => ?_, fun h => ?_⟩; (focus (exfalso; (first | (with_reducible (cases h; done)) | (revert h; simp; done) | (revert h; simp; omega) | (revert h; simp [*]; done)))); clear h))
    refine ⟨_, sv_at 1 rfl ht, ?_⟩
    refine ⟨?_, ?_⟩
    · repeat (first | (refine ⟨fun h => ?_, fun h => ?_⟩; rotate_left 1; (focus (exfalso; (first | (with_reducible (cases h; done)) | (revert h; simp; done) | (revert h; simp; omega) | (revert h; simp [*]; done)))); clear h) | (refine ⟨fun h => ?_, fun h => ?_⟩; (focus (exfalso; (first | (with_reducible (cases h; done)) | (revert h; simp; done) | (revert h; simp; omega) | (revert h; simp [*]; done)))); clear h))
      refine ⟨by show s.length ≤ _; omega, fun g1 g1c => ?_⟩
      refine ⟨?_, ?_⟩
      · repeat (first | (refine ⟨fun h => ?_, fun h => ?_⟩; rotate_left 1; (focus (exfalso; (first | (with_reducible (cases h; done)) | (revert h; simp; done) | (revert h; simp; omega) | (revert h; simp [*]; done)))); clear h) | (refine ⟨fun h => ?_, fun h => ?_⟩; (focus (exfalso; (first | (with_reducible (cases h; done)) | (revert h; simp; done) | (revert h; simp; omega) | (revert h; simp [*]; done)))); clear h))
        refine ⟨[], _, refSum_ok _ s _ (by omega) (SlR.own (xs := BV s) 0 rfl (by rw [BV_length, Nat.mul_one]) (.inr ⟨g1, rfl⟩)), ?_⟩
        rintro _ _ ⟨rfl, rfl⟩
        repeat (first | (refine ⟨fun h => ?_, fun h => ?_⟩; rotate_left 1; (focus (exfalso; (first | (with_reducible (cases h; done)) | (revert h; simp; done) | (revert h; simp; omega) | (revert h; simp [*]; done)))); clear h) | (refine ⟨fun h => ?_, fun h => ?_⟩; (focus (exfalso; (first | (with_reducible (cases h; done)) | (revert h; simp; done) | (revert h; simp; omega) | (revert h; simp [*]; done)))); clear h))
        refine ⟨by show t.length ≤ _; omega, fun g2 g2c => ?_⟩
        repeat (first | (refine ⟨fun h => ?_, fun h => ?_⟩; rotate_left 1; (focus (exfalso; (first | (with_reducible (cases h; done)) | (revert h; simp; done) | (revert h; simp; omega) | (revert h; simp [*]; done)))); clear h) | (refine ⟨fun h => ?_, fun h => ?_⟩; (focus (exfalso; (first | (with_reducible (cases h; done)) | (revert h; simp; done) | (revert h; simp; omega) | (revert h; simp [*]; done)))); clear h))
        refine ⟨[], _, refSum_ok _ t _ (by omega) (SlR.own (xs := BV t) 1 rfl (by rw [BV_length, Nat.mul_one]) (.inr ⟨g2, rfl⟩)), ?_⟩
        rintro _ _ ⟨rfl, rfl⟩
        repeat (first | (refine ⟨fun h => ?_, fun h => ?_⟩; rotate_left 1; (focus (exfalso; (first | (with_reducible (cases h; done)) | (revert h; simp; done) | (revert h; simp; omega) | (revert h; simp [*]; done)))); clear h) | (refine ⟨fun h => ?_, fun h => ?_⟩; (focus (exfalso; (first | (with_reducible (cases h; done)) | (revert h; simp; done) | (revert h; simp; omega) | (revert h; simp [*]; done)))); clear h))
        by_cases e2 : sha s = sha t
        · repeat (first | (refine ⟨fun h => ?_, fun h => ?_⟩; rotate_left 1; (focus (exfalso; (first | (with_reducible (cases h; done)) | (revert h; simp; done) | (revert h; simp; omega) | (revert h; simp [*]; done)))); clear h) | (refine ⟨fun h => ?_, fun h => ?_⟩; (focus (exfalso; (first | (with_reducible (cases h; done)) | (revert h; simp; done) | (revert h; simp; omega) | (revert h; simp [*]; done)))); clear h))
          exact ⟨_, Ent.nil _, rfl, rfl⟩
        · have hlt : k < K := by
            rcases Nat.lt_or_ge k K with h | h
            · exact h
            · obtain rfl : k = K := by omega
              rw [hs] at ha; rw [ht] at hb
              cases ha; cases hb
              exact absurd hsuv e2
          repeat (first | (refine ⟨fun h => ?_, fun h => ?_⟩; rotate_left 1; (focus (exfalso; (first | (with_reducible (cases h; done)) | (revert h; simp; done) | (revert h; simp; omega) | (revert h; simp [*]; done)))); clear h) | (refine ⟨fun h => ?_, fun h => ?_⟩; (focus (exfalso; (first | (with_reducible (cases h; done)) | (revert h; simp; done) | (revert h; simp; omega) | (revert h; simp [*]; done)))); clear h))
          (intro z hz; obtain rfl : z = ((k + 1 : Nat) : Int) := (by first | (rw [IntKind.wrap_i64] at hz; omega) | (rw [IntKind.wrap_u64] at hz; omega) | omega); clear hz)
          exact ⟨rfl, k + 1, hlt, by show K - (k + 1) < K - k; omega, ⟨rfl, trivial⟩, Ent.pick [0, 0] rfl, rfl⟩
      · repeat (first | (refine ⟨fun h => ?_, fun h => ?_⟩; rotate_left 1; (focus (exfalso; (first | (with_reducible (cases h; done)) | (revert h; simp; done) | (revert h; simp; omega) | (revert h; simp [*]; done)))); clear h) | (refine ⟨fun h => ?_, fun h => ?_⟩; (focus (exfalso; (first | (with_reducible (cases h; done)) | (revert h; simp; done) | (revert h; simp; omega) | (revert h; simp [*]; done)))); clear h))
        refine ⟨by show t.length ≤ _; omega, fun g2 g2c => ?_⟩
        repeat (first | (refine ⟨fun h => ?_, fun h => ?_⟩; rotate_left 1; (focus (exfalso; (first | (with_reducible (cases h; done)) | (revert h; simp; done) | (revert h; simp; omega) | (revert h; simp [*]; done)))); clear h) | (refine ⟨fun h => ?_, fun h => ?_⟩; (focus (exfalso; (first | (with_reducible (cases h; done)) | (revert h; simp; done) | (revert h; simp; omega) | (revert h; simp [*]; done)))); clear h))
        refine ⟨[], _, refSum_ok _ s _ (by omega) (SlR.own (xs := BV s) 0 rfl (by rw [BV_length, Nat.mul_one]) (.inr ⟨g1, rfl⟩)), ?_⟩
        rintro _ _ ⟨rfl, rfl⟩
        repeat (first | (refine ⟨fun h => ?_, fun h => ?_⟩; rotate_left 1; (focus (exfalso; (first | (with_reducible (cases h; done)) | (revert h; simp; done) | (revert h; simp; omega) | (revert h; simp [*]; done)))); clear h) | (refine ⟨fun h => ?_, fun h => ?_⟩; (focus (exfalso; (first | (with_reducible (cases h; done)) | (revert h; simp; done) | (revert h; simp; omega) | (revert h; simp [*]; done)))); clear h))
        refine ⟨[], _, refSum_ok _ t _ (by omega) (SlR.own (xs := BV t) 1 rfl (by rw [BV_length, Nat.mul_one]) (.inr ⟨g2, rfl⟩)), ?_⟩
        rintro _ _ ⟨rfl, rfl⟩
        repeat (first | (refine ⟨fun h => ?_, fun h => ?_⟩; rotate_left 1; (focus (exfalso; (first | (with_reducible (cases h; done)) | (revert h; simp; done) | (revert h; simp; omega) | (revert h; simp [*]; done)))); clear h) | (refine ⟨fun h => ?_, fun h => ?_⟩; (focus (exfalso; (first | (with_reducible (cases h; done)) | (revert h; simp; done) | (revert h; simp; omega) | (revert h; simp [*]; done)))); clear h))
        by_cases e2 : sha s = sha t
        · repeat (first | (refine ⟨fun h => ?_, fun h => ?_⟩; rotate_left 1; (focus (exfalso; (first | (with_reducible (cases h; done)) | (revert h; simp; done) | (revert h; simp; omega) | (revert h; simp [*]; done)))); clear h) | (refine ⟨fun h => ?_, fun h => ?_⟩; (focus (exfalso; (first | (with_reducible (cases h; done)) | (revert h; simp; done) | (revert h; simp; omega) | (revert h; simp [*]; done)))); clear h))
          exact ⟨_, Ent.nil _, rfl, rfl⟩
        · have hlt : k < K := by
            rcases Nat.lt_or_ge k K with h | h
            · exact h
            · obtain rfl : k = K := by omega
              rw [hs] at ha; rw [ht] at hb
              cases ha; cases hb
              exact absurd hsuv e2
          repeat (first | (refine ⟨fun h => ?_, fun h => ?_⟩; rotate_left 1; (focus (exfalso; (first | (with_reducible (cases h; done)) | (revert h; simp; done) | (revert h; simp; omega) | (revert h; simp [*]; done)))); clear h) | (refine ⟨fun h => ?_, fun h => ?_⟩; (focus (exfalso; (first | (with_reducible (cases h; done)) | (revert h; simp; done) | (revert h; simp; omega) | (revert h; simp [*]; done)))); clear h))
          (intro z hz; obtain rfl : z = ((k + 1 : Nat) : Int) := (by first | (rw [IntKind.wrap_i64] at hz; omega) | (rw [IntKind.wrap_u64] at hz; omega) | omega); clear hz)
          exact ⟨rfl, k + 1, hlt, by show K - (k + 1) < K - k; omega, ⟨rfl, trivial⟩, Ent.pick [0, 0] rfl, rfl⟩
    · repeat (first | (refine ⟨fun h => ?_, fun h => ?_⟩; rotate_left 1; (focus (exfalso; (first | (with_reducible (cases h; done)) | (revert h; simp; done) | (revert h; simp; omega) | (revert h; simp [*]; done)))); clear h) | (refine ⟨fun h => ?_, fun h => ?_⟩; (focus (exfalso; (first | (with_reducible (cases h; done)) | (revert h; simp; done) | (revert h; simp; omega) | (revert h; simp [*]; done)))); clear h))
      refine ⟨by show t.length ≤ _; omega, fun g2 g2c => ?_⟩
      repeat (first | (refine ⟨fun h => ?_, fun h => ?_⟩; rotate_left 1; (focus (exfalso; (first | (with_reducible (cases h; done)) | (revert h; simp; done) | (revert h; simp; omega) | (revert h; simp [*]; done)))); clear h) | (refine ⟨fun h => ?_, fun h => ?_⟩; (focus (exfalso; (first | (with_reducible (cases h; done)) | (revert h; simp; done) | (revert h; simp; omega) | (revert h; simp [*]; done)))); clear h))
      refine ⟨by show s.length ≤ _; omega, fun g1 g1c => ?_⟩
      repeat (first | (refine ⟨fun h => ?_, fun h => ?_⟩; rotate_left 1; (focus (exfalso; (first | (with_reducible (cases h; done)) | (revert h; simp; done) | (revert h; simp; omega) | (revert h; simp [*]; done)))); clear h) | (refine ⟨fun h => ?_, fun h => ?_⟩; (focus (exfalso; (first | (with_reducible (cases h; done)) | (revert h; simp; done) | (revert h; simp; omega) | (revert h; simp [*]; done)))); clear h))
      refine ⟨[], _, refSum_ok _ s _ (by omega) (SlR.own (xs := BV s) 1 rfl (by rw [BV_length, Nat.mul_one]) (.inr ⟨g1, rfl⟩)), ?_⟩
      rintro _ _ ⟨rfl, rfl⟩
      repeat (first | (refine ⟨fun h => ?_, fun h => ?_⟩; rotate_left 1; (focus (exfalso; (first | (with_reducible (cases h; done)) | (revert h; simp; done) | (revert h; simp; omega) | (revert h; simp [*]; done)))); clear h) | (refine ⟨fun h => ?_, fun h => ?_⟩; (focus (exfalso; (first | (with_reducible (cases h; done)) | (revert h; simp; done) | (revert h; simp; omega) | (revert h; simp [*]; done)))); clear h))
      refine ⟨[], _, refSum_ok _ t _ (by omega) (SlR.own (xs := BV t) 0 rfl (by rw [BV_length, Nat.mul_one]) (.inr ⟨g2, rfl⟩)), ?_⟩
      rintro _ _ ⟨rfl, rfl⟩
      repeat (first | (refine ⟨fun h => ?_, fun h => ?_⟩; rotate_left 1; (focus (exfalso; (first | (with_reducible (cases h; done)) | (revert h; simp; done) | (revert h; simp; omega) | (revert h; simp [*]; done)))); clear h) | (refine ⟨fun h => ?_, fun h => ?_⟩; (focus (exfalso; (first | (with_reducible (cases h; done)) | (revert h; simp; done) | (revert h; simp; omega) | (revert h; simp [*]; done)))); clear h))
      by_cases e2 : sha s = sha t
      · repeat (first | (refine ⟨fun h => ?_, fun h => ?_⟩; rotate_left 1; (focus (exfalso; (first | (with_reducible (cases h; done)) | (revert h; simp; done) | (revert h; simp; omega) | (revert h; simp [*]; done)))); clear h) | (refine ⟨fun h => ?_, fun h => ?_⟩; (focus (exfalso; (first | (with_reducible (cases h; done)) | (revert h; simp; done) | (revert h; simp; omega) | (revert h; simp [*]; done)))); clear h))
        exact ⟨_, Ent.nil _, rfl, rfl⟩
      · have hlt : k < K := by
          rcases Nat.lt_or_ge k K with h | h
          · exact h
          · obtain rfl : k = K := by omega
            rw [hs] at ha; rw [ht] at hb
            cases ha; cases hb
            exact absurd hsuv e2
        repeat (first | (refine ⟨fun h => ?_, fun h => ?_⟩; rotate_left 1; (focus (exfalso; (first | (with_reducible (cases h; done)) | (revert h; simp; done) | (revert h; simp; omega) | (revert h; simp [*]; done)))); clear h) | (refine ⟨fun h => ?_, fun h => ?_⟩; (focus (exfalso; (first | (with_reducible (cases h; done)) | (revert h; simp; done) | (revert h; simp; omega) | (revert h; simp [*]; done)))); clear h))
        (intro z hz; obtain rfl : z = ((k + 1 : Nat) : Int) := (by first | (rw [IntKind.wrap_i64] at hz; omega) | (rw [IntKind.wrap_u64] at hz; omega) | omega); clear hz)
        exact ⟨rfl, k + 1, hlt, by show K - (k + 1) < K - k; omega, ⟨rfl, trivial⟩, Ent.pick [0, 0] rfl, rfl⟩

end Go.Proofs.YtoddabjacjkjbaaDoor
