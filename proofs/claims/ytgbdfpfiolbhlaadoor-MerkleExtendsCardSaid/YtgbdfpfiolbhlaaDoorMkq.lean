/-
  The law MerkleExtends.
-/
import Derived.Test.YtgbdfpfiolbhlaaDoorMkp
namespace Go.Proofs.YtgbdfpfiolbhlaaDoor
open Go Go.RowKit
set_option linter.unusedVariables false

theorem consB_parts {old new : Str} {m n : Nat} {p : List Str} (h : consistentB m n old new p = true) :
    sumsB p = true ∧ ((m = 0 ∧ old = sha []) ∨ (m ≠ 0 ∧ (bothR old p.reverse m n true).2.2 = true ∧ (bothR old p.reverse m n true).1 = old ∧ (bothR old p.reverse m n true).2.1 = new)) := by
  simp only [consistentB, Bool.and_eq_true] at h
  obtain ⟨⟨_, h1⟩, h2⟩ := h
  refine ⟨h1, ?_⟩
  split at h2
  · rename_i e
    simp only [Bool.and_eq_true, beq_iff_eq] at h2
    exact .inl ⟨by omega, h2.1.2⟩
  · rename_i e
    simp only [Bool.and_eq_true, beq_iff_eq, Int.toNat_natCast, bothOf] at h2
    exact .inr ⟨by omega, h2.1.1, h2.1.2, h2.2⟩

/-- What the law says of an accepted root that is not the first leaves' own. -/
theorem extend {old : Str} {l p : List Str} {m : Nat} (hml : m ≤ l.length) (hl : sumsB l = true) (h : consistentB m l.length old (rootOf l) p = true) (hne : old ≠ rootOf (l.take m)) :
    1 ≤ m ∧ m ≠ l.length ∧ p.reverse.length = (proofR l m true).length ∧ foundR old p.reverse l m true = true := by
  obtain ⟨hp, ⟨h0, h1⟩ | ⟨h0, hok, hf, hs⟩⟩ := consB_parts h
  · subst h0
    exact absurd (h1.trans (rootOf_zero rfl).symm) hne
  · refine ⟨by omega, ?_, both_length _ _ _ _ (by omega) hml hok, extends_ _ _ _ _ (by omega) hml hl (by rw [sumsB_reverse]; exact hp) hok hs (by rw [hf]; exact hne)⟩
    intro e
    have ht : l.take m = l := List.take_of_length_le (by omega)
    rw [ht] at hne
    rcases bothR_same e hok with ⟨_, _, h2⟩ | ⟨hb, _⟩
    · rw [h2] at hs
      exact hne hs
    · cases hb

set_option maxRecDepth 100000 in
theorem MerkleExtends_law (R : Rd) (hG : ShaG R) (v0 v1 v2 v3 : Value) (s0 : SeenV R (.sl 1 .str) v0) (s1 : SeenV R (.int .i64) v1) (s2 : SeenV R .str v2) (s3 : SeenV R (.sl 1 .str) v3) :
    Fn Tryd.prog 10 [v0, v1, v2, v3] [] R (fun v _ => v = .bool true) := by
  obtain ⟨l, hl, hs, _⟩ := s0.strings
  obtain ⟨m, rfl, hm0, _⟩ := s1.i64
  obtain ⟨old, rfl, hold⟩ := s2.str
  obtain ⟨p, hp, ht, _⟩ := s3.strings
  have hs' := hs
  have ht' := ht
  obtain ⟨A, cap, rfl, hc, hsr⟩ := hs
  obtain ⟨B, cap2, rfl, hc2, htr⟩ := ht
  have hML := maxLen_eq
  refine fn_of_vc mixed tabOk Tryd.func10 rfl (by kernel_rfl) (Nat.le_of_ble_eq_true rfl) ?_
  refine ⟨[], _, awake_ok _ (hG.rh _), ?_⟩
  rintro _ _ ⟨rfl, rfl⟩
  repeat (first | (refine ⟨fun h => ?_, fun h => ?_⟩; rotate_left 1; (focus (exfalso; (first | (with_reducible (cases h; done)) | (revert h; simp; done) | (revert h; simp; omega) | (revert h; simp [*]; done)))); clear h) | (refine ⟨fun h => ?_, fun h => ?_⟩; (focus (exfalso; (first | (with_reducible (cases h; done)) | (revert h; simp; done) | (revert h; simp; omega) | (revert h; simp [*]; done)))); clear h))
  refine ⟨[], _, few_ok _ l _ (by omega) (hsr.rh _), ?_⟩
  rintro _ _ ⟨rfl, rfl⟩
  cases c1 : fewB l
  · repeat (first | (refine ⟨fun h => ?_, fun h => ?_⟩; rotate_left 1; (focus (exfalso; (first | (with_reducible (cases h; done)) | (revert h; simp; done) | (revert h; simp; omega) | (revert h; simp [*]; done)))); clear h) | (refine ⟨fun h => ?_, fun h => ?_⟩; (focus (exfalso; (first | (with_reducible (cases h; done)) | (revert h; simp; done) | (revert h; simp; omega) | (revert h; simp [*]; done)))); clear h))
    refine ⟨[], _, awake_ok _ (hG.rh _), ?_⟩
    rintro _ _ ⟨rfl, rfl⟩
    exact ⟨_, Ent.refl _, rfl⟩
  obtain ⟨hsm, hl20, _⟩ := fewB_small c1
  repeat (first | (refine ⟨fun h => ?_, fun h => ?_⟩; rotate_left 1; (focus (exfalso; (first | (with_reducible (cases h; done)) | (revert h; simp; done) | (revert h; simp; omega) | (revert h; simp [*]; done)))); clear h) | (refine ⟨fun h => ?_, fun h => ?_⟩; (focus (exfalso; (first | (with_reducible (cases h; done)) | (revert h; simp; done) | (revert h; simp; omega) | (revert h; simp [*]; done)))); clear h))
  refine ⟨[], _, few_ok _ p _ (by omega) (htr.rh _), ?_⟩
  rintro _ _ ⟨rfl, rfl⟩
  cases c2 : fewB p
  · repeat (first | (refine ⟨fun h => ?_, fun h => ?_⟩; rotate_left 1; (focus (exfalso; (first | (with_reducible (cases h; done)) | (revert h; simp; done) | (revert h; simp; omega) | (revert h; simp [*]; done)))); clear h) | (refine ⟨fun h => ?_, fun h => ?_⟩; (focus (exfalso; (first | (with_reducible (cases h; done)) | (revert h; simp; done) | (revert h; simp; omega) | (revert h; simp [*]; done)))); clear h))
    refine ⟨[], _, awake_ok _ (hG.rh _), ?_⟩
    rintro _ _ ⟨rfl, rfl⟩
    exact ⟨_, Ent.refl _, rfl⟩
  obtain ⟨hsmp, hp20, _⟩ := fewB_small c2
  by_cases c3 : (64 : Int) < old.length
  · repeat (first | (refine ⟨fun h => ?_, fun h => ?_⟩; rotate_left 1; (focus (exfalso; (first | (with_reducible (cases h; done)) | (revert h; simp; done) | (revert h; simp; omega) | (revert h; simp [*]; done)))); clear h) | (refine ⟨fun h => ?_, fun h => ?_⟩; (focus (exfalso; (first | (with_reducible (cases h; done)) | (revert h; simp; done) | (revert h; simp; omega) | (revert h; simp [*]; done)))); clear h))
    refine ⟨[], _, awake_ok _ (hG.rh _), ?_⟩
    rintro _ _ ⟨rfl, rfl⟩
    exact ⟨_, Ent.refl _, rfl⟩
  repeat (first | (refine ⟨fun h => ?_, fun h => ?_⟩; rotate_left 1; (focus (exfalso; (first | (with_reducible (cases h; done)) | (revert h; simp; done) | (revert h; simp; omega) | (revert h; simp [*]; done)))); clear h) | (refine ⟨fun h => ?_, fun h => ?_⟩; (focus (exfalso; (first | (with_reducible (cases h; done)) | (revert h; simp; done) | (revert h; simp; omega) | (revert h; simp [*]; done)))); clear h))
  refine ⟨[], _, refSums_ok _ l _ (by omega) (hsr.rh _), ?_⟩
  rintro _ _ ⟨rfl, rfl⟩
  cases c4 : sumsB l
  · repeat (first | (refine ⟨fun h => ?_, fun h => ?_⟩; rotate_left 1; (focus (exfalso; (first | (with_reducible (cases h; done)) | (revert h; simp; done) | (revert h; simp; omega) | (revert h; simp [*]; done)))); clear h) | (refine ⟨fun h => ?_, fun h => ?_⟩; (focus (exfalso; (first | (with_reducible (cases h; done)) | (revert h; simp; done) | (revert h; simp; omega) | (revert h; simp [*]; done)))); clear h))
    refine ⟨[], _, awake_ok _ (hG.rh _), ?_⟩
    rintro _ _ ⟨rfl, rfl⟩
    exact ⟨_, Ent.refl _, rfl⟩
  by_cases c5 : m < 0
  · repeat (first | (refine ⟨fun h => ?_, fun h => ?_⟩; rotate_left 1; (focus (exfalso; (first | (with_reducible (cases h; done)) | (revert h; simp; done) | (revert h; simp; omega) | (revert h; simp [*]; done)))); clear h) | (refine ⟨fun h => ?_, fun h => ?_⟩; (focus (exfalso; (first | (with_reducible (cases h; done)) | (revert h; simp; done) | (revert h; simp; omega) | (revert h; simp [*]; done)))); clear h))
    refine ⟨[], _, awake_ok _ (hG.rh _), ?_⟩
    rintro _ _ ⟨rfl, rfl⟩
    exact ⟨_, Ent.refl _, rfl⟩
  by_cases c6 : (l.length : Int) < m
  · repeat (first | (refine ⟨fun h => ?_, fun h => ?_⟩; rotate_left 1; (focus (exfalso; (first | (with_reducible (cases h; done)) | (revert h; simp; done) | (revert h; simp; omega) | (revert h; simp [*]; done)))); clear h) | (refine ⟨fun h => ?_, fun h => ?_⟩; (focus (exfalso; (first | (with_reducible (cases h; done)) | (revert h; simp; done) | (revert h; simp; omega) | (revert h; simp [*]; done)))); clear h))
    refine ⟨[], _, awake_ok _ (hG.rh _), ?_⟩
    rintro _ _ ⟨rfl, rfl⟩
    exact ⟨_, Ent.refl _, rfl⟩
  obtain ⟨m, rfl⟩ := Int.eq_ofNat_of_zero_le (show 0 ≤ m by omega)
  repeat (first | (refine ⟨fun h => ?_, fun h => ?_⟩; rotate_left 1; (focus (exfalso; (first | (with_reducible (cases h; done)) | (revert h; simp; done) | (revert h; simp; omega) | (revert h; simp [*]; done)))); clear h) | (refine ⟨fun h => ?_, fun h => ?_⟩; (focus (exfalso; (first | (with_reducible (cases h; done)) | (revert h; simp; done) | (revert h; simp; omega) | (revert h; simp [*]; done)))); clear h))
  refine ⟨[], _, refRoot_ok _ _ l _ rfl hsm (hs'.rh _), ?_⟩
  rintro _ _ ⟨rfl, rfl⟩
  refine ⟨[], _, Consistent_ok _ (hG.rh _) m l.length old (rootOf l) p _ (by omega) (by omega) (by omega) hsmp (ht'.rh _), ?_⟩
  rintro _ _ ⟨rfl, rfl⟩
  have hext := extend (old := old) (l := l) (p := p) (m := m) (by omega) c4
  cases c7 : consistentB m l.length old (rootOf l) p
  · repeat (first | (refine ⟨fun h => ?_, fun h => ?_⟩; rotate_left 1; (focus (exfalso; (first | (with_reducible (cases h; done)) | (revert h; simp; done) | (revert h; simp; omega) | (revert h; simp [*]; done)))); clear h) | (refine ⟨fun h => ?_, fun h => ?_⟩; (focus (exfalso; (first | (with_reducible (cases h; done)) | (revert h; simp; done) | (revert h; simp; omega) | (revert h; simp [*]; done)))); clear h))
    exact ⟨_, Ent.refl _, rfl⟩
  repeat (first | (refine ⟨fun h => ?_, fun h => ?_⟩; rotate_left 1; (focus (exfalso; (first | (with_reducible (cases h; done)) | (revert h; simp; done) | (revert h; simp; omega) | (revert h; simp [*]; done)))); clear h) | (refine ⟨fun h => ?_, fun h => ?_⟩; (focus (exfalso; (first | (with_reducible (cases h; done)) | (revert h; simp; done) | (revert h; simp; omega) | (revert h; simp [*]; done)))); clear h))
  refine ⟨0, m, rfl, rfl, by omega, by omega, ?_⟩
  repeat (first | (refine ⟨fun h => ?_, fun h => ?_⟩; rotate_left 1; (focus (exfalso; (first | (with_reducible (cases h; done)) | (revert h; simp; done) | (revert h; simp; omega) | (revert h; simp [*]; done)))); clear h) | (refine ⟨fun h => ?_, fun h => ?_⟩; (focus (exfalso; (first | (with_reducible (cases h; done)) | (revert h; simp; done) | (revert h; simp; omega) | (revert h; simp [*]; done)))); clear h))
  refine ⟨[], _, refRoot_ok _ _ (l.take m) _ rfl (hsm.take _) ((hs'.take (by omega)).rh _), ?_⟩
  rintro _ _ ⟨rfl, rfl⟩
  by_cases c8 : old = rootOf (l.take m)
  · generalize rootOf (l.take m) = r at c8
    repeat (first | (refine ⟨fun h => ?_, fun h => ?_⟩; rotate_left 1; (focus (exfalso; (first | (with_reducible (cases h; done)) | (revert h; simp; done) | (revert h; simp; omega) | (revert h; simp [*]; done)))); clear h) | (refine ⟨fun h => ?_, fun h => ?_⟩; (focus (exfalso; (first | (with_reducible (cases h; done)) | (revert h; simp; done) | (revert h; simp; omega) | (revert h; simp [*]; done)))); clear h))
    exact ⟨_, Ent.refl _, rfl⟩
  obtain ⟨hm1, hmn, hlen, hfound⟩ := hext c7 c8
  generalize rootOf (l.take m) = r at c8
  repeat (first | (refine ⟨fun h => ?_, fun h => ?_⟩; rotate_left 1; (focus (exfalso; (first | (with_reducible (cases h; done)) | (revert h; simp; done) | (revert h; simp; omega) | (revert h; simp [*]; done)))); clear h) | (refine ⟨fun h => ?_, fun h => ?_⟩; (focus (exfalso; (first | (with_reducible (cases h; done)) | (revert h; simp; done) | (revert h; simp; omega) | (revert h; simp [*]; done)))); clear h))
  refine ⟨[], _, refConsistency_ok _ l m l.length _ hsm (hs'.rh _), ?_⟩
  rintro _ _ ⟨A2, k2, cap2, xs2, rfl, hg2, hc2⟩
  rcases hc2 with ⟨hn, _⟩ | ⟨_, _, _, rfl, rfl, rfl⟩
  · exact absurd ⟨by omega, by omega, by omega⟩ hn
  have hlen2 : p.length = (consOf l m l.length).length := by
    rw [consOf, if_neg (by omega), List.take_length, List.length_reverse, ← hlen, List.length_reverse]
  rw [Int.toNat_natCast, Int.toNat_natCast, ← hlen2]
  repeat (first | (refine ⟨fun h => ?_, fun h => ?_⟩; rotate_left 1; (focus (exfalso; (first | (with_reducible (cases h; done)) | (revert h; simp; done) | (revert h; simp; omega) | (revert h; simp [*]; done)))); clear h) | (refine ⟨fun h => ?_, fun h => ?_⟩; (focus (exfalso; (first | (with_reducible (cases h; done)) | (revert h; simp; done) | (revert h; simp; omega) | (revert h; simp [*]; done)))); clear h))
  refine ⟨[], _, found_ok old (by omega) p.reverse _ l m true _ _ hlen hm1 (by omega) hsm (by rw [List.reverse_reverse]; exact hsmp) (hs'.rh _) (by rw [List.reverse_reverse]; exact ht'.rh _), ?_⟩
  rintro _ _ ⟨rfl, rfl⟩
  rw [hfound]
  exact ⟨_, Ent.nil _, rfl⟩

end Go.Proofs.YtgbdfpfiolbhlaaDoor
