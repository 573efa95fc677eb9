/-
  Contracts: prefixed, found; the law MerkleExtends.
-/
import Derived.Test.YtgbdfpfiolbhlaaDoorMkl
import Derived.Test.YtgbdfpfiolbhlaaDoorMko
namespace Go.Proofs.YtgbdfpfiolbhlaaDoor
open Go Go.RowKit
set_option linter.unusedVariables false

set_option maxRecDepth 100000 in
set_option maxHeartbeats 2000000 in
theorem prefixed_ok (old : Str) (ho : old.length ≤ 1000000) : ∀ (rp : List Str) (R : Rd) (l : List Str) (m : Nat) (b : Bool) (v0 v4 : Value), rp.length = (proofR l m b).length → 1 ≤ m → m ≤ l.length → Small l → Small rp.reverse → Ss R v0 l → Ss R v4 rp.reverse →
    Fn Tryd.prog 71 [v0, .int .i64 m, .bool b, .string ⟨⟨old⟩⟩, v4] [] R (fun v h => ∃ r : Bool, v = .tuple ⟨[.string ⟨⟨preR old rp m l.length b⟩⟩, .bool r]⟩ ∧ h = []) := by
  have hML := maxLen_eq
  intro rp
  induction rp with
  | nil =>
    intro R l m b v0 v4 hp hm hml hsl hsm hs0 hs
    have hmn : m = l.length ∧ b = true := by
      by_cases e : m = l.length
      · rw [proofR_eq e] at hp
        cases b
        · cases hp
        · exact ⟨e, rfl⟩
      · by_cases c : m ≤ splitN l.length
        · rw [proofR_lo e (by omega) c] at hp; cases hp
        · rw [proofR_hi e (by omega) c] at hp; cases hp
    obtain ⟨e, rfl⟩ := hmn
    have hs0' := hs0
    obtain ⟨A, cap, rfl, hc, hsr⟩ := hs0
    obtain ⟨B, cap2, rfl, hc2, hsr2⟩ := hs
    refine fn_of_vc mixed tabOk Tryd.func71 rfl (by kernel_rfl) (Nat.le_of_ble_eq_true rfl) ?_
    repeat (first | (refine ⟨fun h => ?_, fun h => ?_⟩; rotate_left 1; (focus (exfalso; (first | (with_reducible (cases h; done)) | (revert h; simp; done) | (revert h; simp; omega) | (revert h; simp [*]; done)))); clear h) | (refine ⟨fun h => ?_, fun h => ?_⟩; (focus (exfalso; (first | (with_reducible (cases h; done)) | (revert h; simp; done) | (revert h; simp; omega) | (revert h; simp [*]; done)))); clear h))
    refine ⟨[], _, refRoot_ok _ _ l _ rfl hsl (hs0'.rh _), ?_⟩
    rintro _ _ ⟨rfl, rfl⟩
    exact ⟨_, Ent.refl _, _, rfl, rfl⟩
  | cons last rest ih =>
    intro R l m b v0 v4 hp hm hml hsl hsm hs0 hs
    have hs0' := hs0
    obtain ⟨A, cap, rfl, hc, hsr⟩ := hs0
    obtain ⟨B, cap2, rfl, hc2, hsr2⟩ := hs
    have hs0 : Ss R (.slice A l.length cap) l := ⟨A, cap, rfl, hc, hsr⟩
    have hs : Ss R (.slice B (last :: rest).reverse.length cap2) (last :: rest).reverse := ⟨B, cap2, rfl, hc2, hsr2⟩
    have hlr : (last :: rest).reverse.length = rest.length + 1 := by rw [List.length_reverse, List.length_cons]
    have hbig := hsm.1
    have hbigl := hsl.1
    have hlast := hsm.last
    have hrest : ∀ s ∈ rest, s.length ≤ 1000000 := fun s h => hsm.rest.2 s (by simpa using h)
    refine fn_of_vc mixed tabOk Tryd.func71 rfl (by kernel_rfl) (Nat.le_of_ble_eq_true rfl) ?_
    by_cases e : m = l.length
    · rw [proofR_eq e] at hp
      cases b
      case true => cases hp
      obtain rfl : rest = [] := by cases rest with | nil => rfl | cons _ _ => cases hp
      repeat (first | (refine ⟨fun h => ?_, fun h => ?_⟩; rotate_left 1; (focus (exfalso; (first | (with_reducible (cases h; done)) | (revert h; simp; done) | (revert h; simp; omega) | (revert h; simp [*]; done)))); clear h) | (refine ⟨fun h => ?_, fun h => ?_⟩; (focus (exfalso; (first | (with_reducible (cases h; done)) | (revert h; simp; done) | (revert h; simp; omega) | (revert h; simp [*]; done)))); clear h))
      obtain ⟨a, ha, hr⟩ := hsr2.one (i := 0) (by omega)
      refine ⟨[], (.q 0 (.q 1 (.q 2 (.q 3 (.q 4 (.q 5 (.q 6 (.one 7 (.q 8 (.q 9 (.q 10 .nil))))))))))), by kernel_rfl, ?_⟩
      refine ⟨by omega, by omega, a, ha, _, .inl hr, ?_⟩
      refine ⟨by omega, by omega, a, ha, _, .inl hr, ?_⟩
      refine ⟨[], _, refRoot_ok _ _ l _ rfl hsl ((hs0'.rh _).rh _), ?_⟩
      rintro _ _ ⟨rfl, rfl⟩
      have hpr : preR old [last] m l.length false = last := by rw [preR, if_pos e]; rfl
      rw [hpr]
      exact ⟨_, Ent.refl _, _, rfl, rfl⟩
    have h2 : 2 ≤ l.length := by omega
    have hk := splitN_lt h2
    have hk0 := splitN_pos l.length
    obtain ⟨a, ha, hr⟩ := hsr2.one (i := rest.length) (by omega)
    rw [rev_get] at hr
    have hbel := hs.take (k := rest.length) (by omega)
    rw [rev_take] at hbel
    have hr1 := (hsl.take (splitN l.length)).root
    have hr2 := (hsl.drop (splitN l.length)).root
    repeat (first | (refine ⟨fun h => ?_, fun h => ?_⟩; rotate_left 1; (focus (exfalso; (first | (with_reducible (cases h; done)) | (revert h; simp; done) | (revert h; simp; omega) | (revert h; simp [*]; done)))); clear h) | (refine ⟨fun h => ?_, fun h => ?_⟩; (focus (exfalso; (first | (with_reducible (cases h; done)) | (revert h; simp; done) | (revert h; simp; omega) | (revert h; simp [*]; done)))); clear h))
    refine ⟨[], _, Split_ok _ l.length h2 (by omega), ?_⟩
    rintro _ _ ⟨rfl, rfl⟩
    refine ⟨[], lexT 0 13, by kernel_rfl, ?_⟩
    (intro z hz; obtain rfl : z = ((rest.length : Nat) : Int) := (by first | (rw [IntKind.wrap_i64] at hz; omega) | (rw [IntKind.wrap_u64] at hz; omega) | omega); clear hz)
    refine ⟨by omega, by omega, a, ha, _, .inl hr, ?_⟩
    (intro z hz; obtain rfl : z = ((rest.length : Nat) : Int) := (by first | (rw [IntKind.wrap_i64] at hz; omega) | (rw [IntKind.wrap_u64] at hz; omega) | omega); clear hz)
    refine ⟨0, rest.length, rfl, rfl, by omega, by omega, ?_⟩
    refine ⟨fun hb => ?_, fun hb => ?_⟩
    · replace hb := of_decide_eq_true hb
      have hmk : m ≤ splitN l.length := by omega
      clear hb
      rw [proofR_lo e h2 hmk] at hp
      have htl : (l.take (splitN l.length)).length = splitN l.length := by rw [List.length_take]; omega
      refine ⟨0, splitN l.length, rfl, rfl, by omega, by omega, ?_⟩
      refine ⟨[], _, ih _ (l.take (splitN l.length)) m b _ _ (by simpa using hp) hm (by omega) (hsl.take _) hsm.rest ((hs0.take (by omega)).rh _) (hbel.rh _), ?_⟩
      rintro _ _ ⟨r, rfl, rfl⟩
      have hin := preR_len ho rest m (splitN l.length) b hrest
      rw [htl]
      rw [preR, if_neg e, if_pos hmk]
      generalize preR old rest m (splitN l.length) b = inner at hin
      refine ⟨[], (.q 0 (.q 1 (.q 3 (.one 2 (.q 4 (.q 5 (.q 6 (.q 7 (.q 8 (.q 9 (.q 10 (.q 11 (.q 14 (.q 15 (.q 16 (.one 12 (.q 13 (.one 17 (.q 18 (.one 19 (.q 20 (.q 21 (.q 22 .nil))))))))))))))))))))))), by kernel_rfl, ?_⟩
      refine ⟨[], _, refNode_ok _ _ _ (by omega) (by omega), ?_⟩
      rintro _ _ ⟨rfl, rfl⟩
      cases r
      · repeat (first | (refine ⟨fun h => ?_, fun h => ?_⟩; rotate_left 1; (focus (exfalso; (first | (with_reducible (cases h; done)) | (revert h; simp; done) | (revert h; simp; omega) | (revert h; simp [*]; done)))); clear h) | (refine ⟨fun h => ?_, fun h => ?_⟩; (focus (exfalso; (first | (with_reducible (cases h; done)) | (revert h; simp; done) | (revert h; simp; omega) | (revert h; simp [*]; done)))); clear h))
        refine ⟨add1_le hin, ?_⟩
        repeat (first | (refine ⟨fun h => ?_, fun h => ?_⟩; rotate_left 1; (focus (exfalso; (first | (with_reducible (cases h; done)) | (revert h; simp; done) | (revert h; simp; omega) | (revert h; simp [*]; done)))); clear h) | (refine ⟨fun h => ?_, fun h => ?_⟩; (focus (exfalso; (first | (with_reducible (cases h; done)) | (revert h; simp; done) | (revert h; simp; omega) | (revert h; simp [*]; done)))); clear h))
        refine ⟨add2_le hin hlast, ?_⟩
        repeat (first | (refine ⟨fun h => ?_, fun h => ?_⟩; rotate_left 1; (focus (exfalso; (first | (with_reducible (cases h; done)) | (revert h; simp; done) | (revert h; simp; omega) | (revert h; simp [*]; done)))); clear h) | (refine ⟨fun h => ?_, fun h => ?_⟩; (focus (exfalso; (first | (with_reducible (cases h; done)) | (revert h; simp; done) | (revert h; simp; omega) | (revert h; simp [*]; done)))); clear h))
        refine ⟨0, splitN l.length, rfl, rfl, by omega, by omega, ?_⟩
        repeat (first | (refine ⟨fun h => ?_, fun h => ?_⟩; rotate_left 1; (focus (exfalso; (first | (with_reducible (cases h; done)) | (revert h; simp; done) | (revert h; simp; omega) | (revert h; simp [*]; done)))); clear h) | (refine ⟨fun h => ?_, fun h => ?_⟩; (focus (exfalso; (first | (with_reducible (cases h; done)) | (revert h; simp; done) | (revert h; simp; omega) | (revert h; simp [*]; done)))); clear h))
        refine ⟨splitN l.length, l.length, rfl, rfl, by omega, by omega, ?_⟩
        repeat (first | (refine ⟨fun h => ?_, fun h => ?_⟩; rotate_left 1; (focus (exfalso; (first | (with_reducible (cases h; done)) | (revert h; simp; done) | (revert h; simp; omega) | (revert h; simp [*]; done)))); clear h) | (refine ⟨fun h => ?_, fun h => ?_⟩; (focus (exfalso; (first | (with_reducible (cases h; done)) | (revert h; simp; done) | (revert h; simp; omega) | (revert h; simp [*]; done)))); clear h))
        refine ⟨[], _, refRoot_ok _ _ (l.take (splitN l.length)) _ rfl (hsl.take _) (((hs0.take (by omega)).rh _).rh _), ?_⟩
        rintro _ _ ⟨rfl, rfl⟩
        generalize rootOf (l.take (splitN l.length)) = r1 at hr1
        repeat (first | (refine ⟨fun h => ?_, fun h => ?_⟩; rotate_left 1; (focus (exfalso; (first | (with_reducible (cases h; done)) | (revert h; simp; done) | (revert h; simp; omega) | (revert h; simp [*]; done)))); clear h) | (refine ⟨fun h => ?_, fun h => ?_⟩; (focus (exfalso; (first | (with_reducible (cases h; done)) | (revert h; simp; done) | (revert h; simp; omega) | (revert h; simp [*]; done)))); clear h))
        refine ⟨add1_le hr1, ?_⟩
        repeat (first | (refine ⟨fun h => ?_, fun h => ?_⟩; rotate_left 1; (focus (exfalso; (first | (with_reducible (cases h; done)) | (revert h; simp; done) | (revert h; simp; omega) | (revert h; simp [*]; done)))); clear h) | (refine ⟨fun h => ?_, fun h => ?_⟩; (focus (exfalso; (first | (with_reducible (cases h; done)) | (revert h; simp; done) | (revert h; simp; omega) | (revert h; simp [*]; done)))); clear h))
        refine ⟨[], _, refRoot_ok _ _ (l.drop (splitN l.length)) _ rfl (hsl.drop _) (((hs0.drop (by omega)).rh _).rh _), ?_⟩
        rintro _ _ ⟨rfl, rfl⟩
        generalize rootOf (l.drop (splitN l.length)) = r2 at hr2
        repeat (first | (refine ⟨fun h => ?_, fun h => ?_⟩; rotate_left 1; (focus (exfalso; (first | (with_reducible (cases h; done)) | (revert h; simp; done) | (revert h; simp; omega) | (revert h; simp [*]; done)))); clear h) | (refine ⟨fun h => ?_, fun h => ?_⟩; (focus (exfalso; (first | (with_reducible (cases h; done)) | (revert h; simp; done) | (revert h; simp; omega) | (revert h; simp [*]; done)))); clear h))
        refine ⟨add2_le hr1 hr2, ?_⟩
        repeat (first | (refine ⟨fun h => ?_, fun h => ?_⟩; rotate_left 1; (focus (exfalso; (first | (with_reducible (cases h; done)) | (revert h; simp; done) | (revert h; simp; omega) | (revert h; simp [*]; done)))); clear h) | (refine ⟨fun h => ?_, fun h => ?_⟩; (focus (exfalso; (first | (with_reducible (cases h; done)) | (revert h; simp; done) | (revert h; simp; omega) | (revert h; simp [*]; done)))); clear h))
        refine ⟨[], _, collides_ok _ (1 :: (inner ++ last)) (1 :: (r1 ++ r2)) (by rw [List.length_cons, List.length_append]; omega) (by rw [List.length_cons, List.length_append]; omega), ?_⟩
        rintro _ _ ⟨rfl, rfl⟩
        repeat (first | (refine ⟨fun h => ?_, fun h => ?_⟩; rotate_left 1; (focus (exfalso; (first | (with_reducible (cases h; done)) | (revert h; simp; done) | (revert h; simp; omega) | (revert h; simp [*]; done)))); clear h) | (refine ⟨fun h => ?_, fun h => ?_⟩; (focus (exfalso; (first | (with_reducible (cases h; done)) | (revert h; simp; done) | (revert h; simp; omega) | (revert h; simp [*]; done)))); clear h))
        exact ⟨_, Ent.refl _, _, rfl, rfl⟩
      · repeat (first | (refine ⟨fun h => ?_, fun h => ?_⟩; rotate_left 1; (focus (exfalso; (first | (with_reducible (cases h; done)) | (revert h; simp; done) | (revert h; simp; omega) | (revert h; simp [*]; done)))); clear h) | (refine ⟨fun h => ?_, fun h => ?_⟩; (focus (exfalso; (first | (with_reducible (cases h; done)) | (revert h; simp; done) | (revert h; simp; omega) | (revert h; simp [*]; done)))); clear h))
        exact ⟨_, Ent.refl _, _, rfl, rfl⟩
    · replace hb := of_decide_eq_false hb
      have hmk : ¬ m ≤ splitN l.length := by omega
      clear hb
      rw [proofR_hi e h2 hmk] at hp
      have hdl : (l.drop (splitN l.length)).length = l.length - splitN l.length := by rw [List.length_drop]
      refine ⟨splitN l.length, l.length, rfl, rfl, by omega, by omega, ?_⟩
      (intro z hz; obtain rfl : z = ((m - splitN l.length : Nat) : Int) := (by first | (rw [IntKind.wrap_i64] at hz; omega) | (rw [IntKind.wrap_u64] at hz; omega) | omega); clear hz)
      refine ⟨[], _, ih _ (l.drop (splitN l.length)) (m - splitN l.length) false _ _ (by simpa using hp) (by omega) (by omega) (hsl.drop _) hsm.rest ((hs0.drop (by omega)).rh _) (hbel.rh _), ?_⟩
      rintro _ _ ⟨r, rfl, rfl⟩
      have hin := preR_len ho rest (m - splitN l.length) (l.length - splitN l.length) false hrest
      rw [hdl]
      rw [preR, if_neg e, if_neg hmk]
      generalize preR old rest (m - splitN l.length) (l.length - splitN l.length) false = inner at hin
      refine ⟨[], (.q 0 (.q 1 (.q 3 (.one 2 (.q 4 (.q 5 (.q 6 (.q 7 (.q 8 (.q 9 (.q 10 (.q 11 (.q 14 (.q 15 (.q 16 (.one 12 (.q 13 (.one 17 (.q 18 (.one 19 (.q 20 (.q 21 (.q 22 .nil))))))))))))))))))))))), by kernel_rfl, ?_⟩
      refine ⟨[], _, refNode_ok _ _ _ (by omega) (by omega), ?_⟩
      rintro _ _ ⟨rfl, rfl⟩
      cases r
      · repeat (first | (refine ⟨fun h => ?_, fun h => ?_⟩; rotate_left 1; (focus (exfalso; (first | (with_reducible (cases h; done)) | (revert h; simp; done) | (revert h; simp; omega) | (revert h; simp [*]; done)))); clear h) | (refine ⟨fun h => ?_, fun h => ?_⟩; (focus (exfalso; (first | (with_reducible (cases h; done)) | (revert h; simp; done) | (revert h; simp; omega) | (revert h; simp [*]; done)))); clear h))
        refine ⟨add1_le hlast, ?_⟩
        repeat (first | (refine ⟨fun h => ?_, fun h => ?_⟩; rotate_left 1; (focus (exfalso; (first | (with_reducible (cases h; done)) | (revert h; simp; done) | (revert h; simp; omega) | (revert h; simp [*]; done)))); clear h) | (refine ⟨fun h => ?_, fun h => ?_⟩; (focus (exfalso; (first | (with_reducible (cases h; done)) | (revert h; simp; done) | (revert h; simp; omega) | (revert h; simp [*]; done)))); clear h))
        refine ⟨add2_le hlast hin, ?_⟩
        repeat (first | (refine ⟨fun h => ?_, fun h => ?_⟩; rotate_left 1; (focus (exfalso; (first | (with_reducible (cases h; done)) | (revert h; simp; done) | (revert h; simp; omega) | (revert h; simp [*]; done)))); clear h) | (refine ⟨fun h => ?_, fun h => ?_⟩; (focus (exfalso; (first | (with_reducible (cases h; done)) | (revert h; simp; done) | (revert h; simp; omega) | (revert h; simp [*]; done)))); clear h))
        refine ⟨0, splitN l.length, rfl, rfl, by omega, by omega, ?_⟩
        repeat (first | (refine ⟨fun h => ?_, fun h => ?_⟩; rotate_left 1; (focus (exfalso; (first | (with_reducible (cases h; done)) | (revert h; simp; done) | (revert h; simp; omega) | (revert h; simp [*]; done)))); clear h) | (refine ⟨fun h => ?_, fun h => ?_⟩; (focus (exfalso; (first | (with_reducible (cases h; done)) | (revert h; simp; done) | (revert h; simp; omega) | (revert h; simp [*]; done)))); clear h))
        refine ⟨splitN l.length, l.length, rfl, rfl, by omega, by omega, ?_⟩
        repeat (first | (refine ⟨fun h => ?_, fun h => ?_⟩; rotate_left 1; (focus (exfalso; (first | (with_reducible (cases h; done)) | (revert h; simp; done) | (revert h; simp; omega) | (revert h; simp [*]; done)))); clear h) | (refine ⟨fun h => ?_, fun h => ?_⟩; (focus (exfalso; (first | (with_reducible (cases h; done)) | (revert h; simp; done) | (revert h; simp; omega) | (revert h; simp [*]; done)))); clear h))
        refine ⟨[], _, refRoot_ok _ _ (l.take (splitN l.length)) _ rfl (hsl.take _) (((hs0.take (by omega)).rh _).rh _), ?_⟩
        rintro _ _ ⟨rfl, rfl⟩
        generalize rootOf (l.take (splitN l.length)) = r1 at hr1
        repeat (first | (refine ⟨fun h => ?_, fun h => ?_⟩; rotate_left 1; (focus (exfalso; (first | (with_reducible (cases h; done)) | (revert h; simp; done) | (revert h; simp; omega) | (revert h; simp [*]; done)))); clear h) | (refine ⟨fun h => ?_, fun h => ?_⟩; (focus (exfalso; (first | (with_reducible (cases h; done)) | (revert h; simp; done) | (revert h; simp; omega) | (revert h; simp [*]; done)))); clear h))
        refine ⟨add1_le hr1, ?_⟩
        repeat (first | (refine ⟨fun h => ?_, fun h => ?_⟩; rotate_left 1; (focus (exfalso; (first | (with_reducible (cases h; done)) | (revert h; simp; done) | (revert h; simp; omega) | (revert h; simp [*]; done)))); clear h) | (refine ⟨fun h => ?_, fun h => ?_⟩; (focus (exfalso; (first | (with_reducible (cases h; done)) | (revert h; simp; done) | (revert h; simp; omega) | (revert h; simp [*]; done)))); clear h))
        refine ⟨[], _, refRoot_ok _ _ (l.drop (splitN l.length)) _ rfl (hsl.drop _) (((hs0.drop (by omega)).rh _).rh _), ?_⟩
        rintro _ _ ⟨rfl, rfl⟩
        generalize rootOf (l.drop (splitN l.length)) = r2 at hr2
        repeat (first | (refine ⟨fun h => ?_, fun h => ?_⟩; rotate_left 1; (focus (exfalso; (first | (with_reducible (cases h; done)) | (revert h; simp; done) | (revert h; simp; omega) | (revert h; simp [*]; done)))); clear h) | (refine ⟨fun h => ?_, fun h => ?_⟩; (focus (exfalso; (first | (with_reducible (cases h; done)) | (revert h; simp; done) | (revert h; simp; omega) | (revert h; simp [*]; done)))); clear h))
        refine ⟨add2_le hr1 hr2, ?_⟩
        repeat (first | (refine ⟨fun h => ?_, fun h => ?_⟩; rotate_left 1; (focus (exfalso; (first | (with_reducible (cases h; done)) | (revert h; simp; done) | (revert h; simp; omega) | (revert h; simp [*]; done)))); clear h) | (refine ⟨fun h => ?_, fun h => ?_⟩; (focus (exfalso; (first | (with_reducible (cases h; done)) | (revert h; simp; done) | (revert h; simp; omega) | (revert h; simp [*]; done)))); clear h))
        refine ⟨[], _, collides_ok _ (1 :: (last ++ inner)) (1 :: (r1 ++ r2)) (by rw [List.length_cons, List.length_append]; omega) (by rw [List.length_cons, List.length_append]; omega), ?_⟩
        rintro _ _ ⟨rfl, rfl⟩
        repeat (first | (refine ⟨fun h => ?_, fun h => ?_⟩; rotate_left 1; (focus (exfalso; (first | (with_reducible (cases h; done)) | (revert h; simp; done) | (revert h; simp; omega) | (revert h; simp [*]; done)))); clear h) | (refine ⟨fun h => ?_, fun h => ?_⟩; (focus (exfalso; (first | (with_reducible (cases h; done)) | (revert h; simp; done) | (revert h; simp; omega) | (revert h; simp [*]; done)))); clear h))
        exact ⟨_, Ent.refl _, _, rfl, rfl⟩
      · repeat (first | (refine ⟨fun h => ?_, fun h => ?_⟩; rotate_left 1; (focus (exfalso; (first | (with_reducible (cases h; done)) | (revert h; simp; done) | (revert h; simp; omega) | (revert h; simp [*]; done)))); clear h) | (refine ⟨fun h => ?_, fun h => ?_⟩; (focus (exfalso; (first | (with_reducible (cases h; done)) | (revert h; simp; done) | (revert h; simp; omega) | (revert h; simp [*]; done)))); clear h))
        exact ⟨_, Ent.refl _, _, rfl, rfl⟩

set_option maxRecDepth 100000 in
set_option maxHeartbeats 2000000 in
theorem found_ok (old : Str) (ho : old.length ≤ 1000000) : ∀ (rp : List Str) (R : Rd) (l : List Str) (m : Nat) (b : Bool) (v0 v4 : Value), rp.length = (proofR l m b).length → 1 ≤ m → m ≤ l.length → Small l → Small rp.reverse → Ss R v0 l → Ss R v4 rp.reverse →
    Fn Tryd.prog 34 [v0, .int .i64 m, .bool b, .string ⟨⟨old⟩⟩, v4] [] R (fun v h => v = .bool (foundR old rp l m b) ∧ h = []) := by
  have hML := maxLen_eq
  intro rp
  induction rp with
  | nil =>
    intro R l m b v0 v4 hp hm hml hsl hsm hs0 hs
    have e : m = l.length := by
      refine Classical.byContradiction fun e => ?_
      by_cases c : m ≤ splitN l.length
      · rw [proofR_lo e (by omega) c] at hp; cases hp
      · rw [proofR_hi e (by omega) c] at hp; cases hp
    obtain ⟨A, cap, rfl, hc, hsr⟩ := hs0
    obtain ⟨B, cap2, rfl, hc2, hsr2⟩ := hs
    refine fn_of_vc mixed tabOk Tryd.func34 rfl (by kernel_rfl) (Nat.le_of_ble_eq_true rfl) ?_
    repeat (first | (refine ⟨fun h => ?_, fun h => ?_⟩; rotate_left 1; (focus (exfalso; (first | (with_reducible (cases h; done)) | (revert h; simp; done) | (revert h; simp; omega) | (revert h; simp [*]; done)))); clear h) | (refine ⟨fun h => ?_, fun h => ?_⟩; (focus (exfalso; (first | (with_reducible (cases h; done)) | (revert h; simp; done) | (revert h; simp; omega) | (revert h; simp [*]; done)))); clear h))
    exact ⟨_, Ent.refl _, rfl, rfl⟩
  | cons last rest ih =>
    intro R l m b v0 v4 hp hm hml hsl hsm hs0 hs
    obtain ⟨A, cap, rfl, hc, hsr⟩ := hs0
    obtain ⟨B, cap2, rfl, hc2, hsr2⟩ := hs
    have hs0 : Ss R (.slice A l.length cap) l := ⟨A, cap, rfl, hc, hsr⟩
    have hs : Ss R (.slice B (last :: rest).reverse.length cap2) (last :: rest).reverse := ⟨B, cap2, rfl, hc2, hsr2⟩
    have hlr : (last :: rest).reverse.length = rest.length + 1 := by rw [List.length_reverse, List.length_cons]
    have hbig := hsm.1
    have hbigl := hsl.1
    have hlast := hsm.last
    have hrest : ∀ s ∈ rest, s.length ≤ 1000000 := fun s h => hsm.rest.2 s (by simpa using h)
    refine fn_of_vc mixed tabOk Tryd.func34 rfl (by kernel_rfl) (Nat.le_of_ble_eq_true rfl) ?_
    by_cases e : m = l.length
    · repeat (first | (refine ⟨fun h => ?_, fun h => ?_⟩; rotate_left 1; (focus (exfalso; (first | (with_reducible (cases h; done)) | (revert h; simp; done) | (revert h; simp; omega) | (revert h; simp [*]; done)))); clear h) | (refine ⟨fun h => ?_, fun h => ?_⟩; (focus (exfalso; (first | (with_reducible (cases h; done)) | (revert h; simp; done) | (revert h; simp; omega) | (revert h; simp [*]; done)))); clear h))
      refine ⟨_, Ent.refl _, ?_, rfl⟩
      rw [foundR, if_pos e]; rfl
    have h2 : 2 ≤ l.length := by omega
    have hk := splitN_lt h2
    have hk0 := splitN_pos l.length
    obtain ⟨a, ha, hr⟩ := hsr2.one (i := rest.length) (by omega)
    rw [rev_get] at hr
    have hbel := hs.take (k := rest.length) (by omega)
    rw [rev_take] at hbel
    have hr1 := (hsl.take (splitN l.length)).root
    have hr2 := (hsl.drop (splitN l.length)).root
    repeat (first | (refine ⟨fun h => ?_, fun h => ?_⟩; rotate_left 1; (focus (exfalso; (first | (with_reducible (cases h; done)) | (revert h; simp; done) | (revert h; simp; omega) | (revert h; simp [*]; done)))); clear h) | (refine ⟨fun h => ?_, fun h => ?_⟩; (focus (exfalso; (first | (with_reducible (cases h; done)) | (revert h; simp; done) | (revert h; simp; omega) | (revert h; simp [*]; done)))); clear h))
    refine ⟨[], _, Split_ok _ l.length h2 (by omega), ?_⟩
    rintro _ _ ⟨rfl, rfl⟩
    refine ⟨[], lexT 0 13, by kernel_rfl, ?_⟩
    (intro z hz; obtain rfl : z = ((rest.length : Nat) : Int) := (by first | (rw [IntKind.wrap_i64] at hz; omega) | (rw [IntKind.wrap_u64] at hz; omega) | omega); clear hz)
    refine ⟨by omega, by omega, a, ha, _, .inl hr, ?_⟩
    (intro z hz; obtain rfl : z = ((rest.length : Nat) : Int) := (by first | (rw [IntKind.wrap_i64] at hz; omega) | (rw [IntKind.wrap_u64] at hz; omega) | omega); clear hz)
    refine ⟨0, rest.length, rfl, rfl, by omega, by omega, ?_⟩
    refine ⟨[], (.q 0 (.q 1 (.q 2 (.q 4 (.q 5 (.q 6 (.one 3 (.one 7 (.q 8 (.q 9 .nil)))))))))), by kernel_rfl, ?_⟩
    refine ⟨0, splitN l.length, rfl, rfl, by omega, by omega, ?_⟩
    refine ⟨splitN l.length, l.length, rfl, rfl, by omega, by omega, ?_⟩
    refine ⟨[], _, refRoot_ok _ _ (l.take (splitN l.length)) _ rfl (hsl.take _) (((hs0.take (by omega)).rh _).rh _), ?_⟩
    rintro _ _ ⟨rfl, rfl⟩
    refine ⟨[], _, refRoot_ok _ _ (l.drop (splitN l.length)) _ rfl (hsl.drop _) (((hs0.drop (by omega)).rh _).rh _), ?_⟩
    rintro _ _ ⟨rfl, rfl⟩
    by_cases hmk : m ≤ splitN l.length
    · rw [proofR_lo e h2 hmk] at hp
      have hp' : rest.length = (proofR (l.take (splitN l.length)) m b).length := by simpa using hp
      have htl : (l.take (splitN l.length)).length = splitN l.length := by rw [List.length_take]; omega
      rw [foundR, if_neg e, if_pos hmk]
      generalize rootOf (l.take (splitN l.length)) = r1 at hr1
      generalize rootOf (l.drop (splitN l.length)) = r2 at hr2
      repeat (first | (refine ⟨fun h => ?_, fun h => ?_⟩; rotate_left 1; (focus (exfalso; (first | (with_reducible (cases h; done)) | (revert h; simp; done) | (revert h; simp; omega) | (revert h; simp [*]; done)))); clear h) | (refine ⟨fun h => ?_, fun h => ?_⟩; (focus (exfalso; (first | (with_reducible (cases h; done)) | (revert h; simp; done) | (revert h; simp; omega) | (revert h; simp [*]; done)))); clear h))
      refine ⟨0, splitN l.length, rfl, rfl, by omega, by omega, ?_⟩
      refine ⟨[], _, prefixed_ok old ho rest _ (l.take (splitN l.length)) m b _ _ hp' hm (by omega) (hsl.take _) hsm.rest ((hs0.take (by omega)).rh _) (hbel.rh _), ?_⟩
      rintro _ _ ⟨r, rfl, rfl⟩
      have hin := preR_len ho rest m (splitN l.length) b hrest
      rw [htl]
      generalize preR old rest m (splitN l.length) b = inner at hin
      refine ⟨add1_le hin, ?_⟩
      refine ⟨add2_le hin hlast, ?_⟩
      refine ⟨add1_le hr1, ?_⟩
      refine ⟨add2_le hr1 hr2, ?_⟩
      refine ⟨[], _, collides_ok _ (1 :: (inner ++ last)) (1 :: (r1 ++ r2)) (by rw [List.length_cons, List.length_append]; omega) (by rw [List.length_cons, List.length_append]; omega), ?_⟩
      rintro _ _ ⟨rfl, rfl⟩
      cases hcb : collB (1 :: (inner ++ last)) (1 :: (r1 ++ r2))
      · repeat (first | (refine ⟨fun h => ?_, fun h => ?_⟩; rotate_left 1; (focus (exfalso; (first | (with_reducible (cases h; done)) | (revert h; simp; done) | (revert h; simp; omega) | (revert h; simp [*]; done)))); clear h) | (refine ⟨fun h => ?_, fun h => ?_⟩; (focus (exfalso; (first | (with_reducible (cases h; done)) | (revert h; simp; done) | (revert h; simp; omega) | (revert h; simp [*]; done)))); clear h))
        refine ⟨0, splitN l.length, rfl, rfl, by omega, by omega, ?_⟩
        repeat (first | (refine ⟨fun h => ?_, fun h => ?_⟩; rotate_left 1; (focus (exfalso; (first | (with_reducible (cases h; done)) | (revert h; simp; done) | (revert h; simp; omega) | (revert h; simp [*]; done)))); clear h) | (refine ⟨fun h => ?_, fun h => ?_⟩; (focus (exfalso; (first | (with_reducible (cases h; done)) | (revert h; simp; done) | (revert h; simp; omega) | (revert h; simp [*]; done)))); clear h))
        refine ⟨[], _, ih _ (l.take (splitN l.length)) m b _ _ hp' hm (by omega) (hsl.take _) hsm.rest ((hs0.take (by omega)).rh _) (hbel.rh _), ?_⟩
        rintro _ _ ⟨rfl, rfl⟩
        repeat (first | (refine ⟨fun h => ?_, fun h => ?_⟩; rotate_left 1; (focus (exfalso; (first | (with_reducible (cases h; done)) | (revert h; simp; done) | (revert h; simp; omega) | (revert h; simp [*]; done)))); clear h) | (refine ⟨fun h => ?_, fun h => ?_⟩; (focus (exfalso; (first | (with_reducible (cases h; done)) | (revert h; simp; done) | (revert h; simp; omega) | (revert h; simp [*]; done)))); clear h))
        exact ⟨_, Ent.refl _, rfl, rfl⟩
      · repeat (first | (refine ⟨fun h => ?_, fun h => ?_⟩; rotate_left 1; (focus (exfalso; (first | (with_reducible (cases h; done)) | (revert h; simp; done) | (revert h; simp; omega) | (revert h; simp [*]; done)))); clear h) | (refine ⟨fun h => ?_, fun h => ?_⟩; (focus (exfalso; (first | (with_reducible (cases h; done)) | (revert h; simp; done) | (revert h; simp; omega) | (revert h; simp [*]; done)))); clear h))
        exact ⟨_, Ent.refl _, rfl, rfl⟩
    · rw [proofR_hi e h2 hmk] at hp
      have hp' : rest.length = (proofR (l.drop (splitN l.length)) (m - splitN l.length) false).length := by simpa using hp
      have htl : (l.drop (splitN l.length)).length = l.length - splitN l.length := by rw [List.length_drop]
      rw [foundR, if_neg e, if_neg hmk]
      generalize rootOf (l.take (splitN l.length)) = r1 at hr1
      generalize rootOf (l.drop (splitN l.length)) = r2 at hr2
      repeat (first | (refine ⟨fun h => ?_, fun h => ?_⟩; rotate_left 1; (focus (exfalso; (first | (with_reducible (cases h; done)) | (revert h; simp; done) | (revert h; simp; omega) | (revert h; simp [*]; done)))); clear h) | (refine ⟨fun h => ?_, fun h => ?_⟩; (focus (exfalso; (first | (with_reducible (cases h; done)) | (revert h; simp; done) | (revert h; simp; omega) | (revert h; simp [*]; done)))); clear h))
      refine ⟨splitN l.length, l.length, rfl, rfl, by omega, by omega, ?_⟩
      (intro z hz; obtain rfl : z = ((m - splitN l.length : Nat) : Int) := (by first | (rw [IntKind.wrap_i64] at hz; omega) | (rw [IntKind.wrap_u64] at hz; omega) | omega); clear hz)
      refine ⟨[], _, prefixed_ok old ho rest _ (l.drop (splitN l.length)) (m - splitN l.length) false _ _ hp' (by omega) (by omega) (hsl.drop _) hsm.rest ((hs0.drop (by omega)).rh _) (hbel.rh _), ?_⟩
      rintro _ _ ⟨r, rfl, rfl⟩
      have hin := preR_len ho rest (m - splitN l.length) (l.length - splitN l.length) false hrest
      rw [htl]
      generalize preR old rest (m - splitN l.length) (l.length - splitN l.length) false = inner at hin
      refine ⟨add1_le hlast, ?_⟩
      refine ⟨add2_le hlast hin, ?_⟩
      refine ⟨add1_le hr1, ?_⟩
      refine ⟨add2_le hr1 hr2, ?_⟩
      refine ⟨[], _, collides_ok _ (1 :: (last ++ inner)) (1 :: (r1 ++ r2)) (by rw [List.length_cons, List.length_append]; omega) (by rw [List.length_cons, List.length_append]; omega), ?_⟩
      rintro _ _ ⟨rfl, rfl⟩
      cases hcb : collB (1 :: (last ++ inner)) (1 :: (r1 ++ r2))
      · repeat (first | (refine ⟨fun h => ?_, fun h => ?_⟩; rotate_left 1; (focus (exfalso; (first | (with_reducible (cases h; done)) | (revert h; simp; done) | (revert h; simp; omega) | (revert h; simp [*]; done)))); clear h) | (refine ⟨fun h => ?_, fun h => ?_⟩; (focus (exfalso; (first | (with_reducible (cases h; done)) | (revert h; simp; done) | (revert h; simp; omega) | (revert h; simp [*]; done)))); clear h))
        refine ⟨splitN l.length, l.length, rfl, rfl, by omega, by omega, ?_⟩
        repeat (first | (refine ⟨fun h => ?_, fun h => ?_⟩; rotate_left 1; (focus (exfalso; (first | (with_reducible (cases h; done)) | (revert h; simp; done) | (revert h; simp; omega) | (revert h; simp [*]; done)))); clear h) | (refine ⟨fun h => ?_, fun h => ?_⟩; (focus (exfalso; (first | (with_reducible (cases h; done)) | (revert h; simp; done) | (revert h; simp; omega) | (revert h; simp [*]; done)))); clear h))
        (intro z hz; obtain rfl : z = ((m - splitN l.length : Nat) : Int) := (by first | (rw [IntKind.wrap_i64] at hz; omega) | (rw [IntKind.wrap_u64] at hz; omega) | omega); clear hz)
        repeat (first | (refine ⟨fun h => ?_, fun h => ?_⟩; rotate_left 1; (focus (exfalso; (first | (with_reducible (cases h; done)) | (revert h; simp; done) | (revert h; simp; omega) | (revert h; simp [*]; done)))); clear h) | (refine ⟨fun h => ?_, fun h => ?_⟩; (focus (exfalso; (first | (with_reducible (cases h; done)) | (revert h; simp; done) | (revert h; simp; omega) | (revert h; simp [*]; done)))); clear h))
        refine ⟨[], _, ih _ (l.drop (splitN l.length)) (m - splitN l.length) false _ _ hp' (by omega) (by omega) (hsl.drop _) hsm.rest ((hs0.drop (by omega)).rh _) (hbel.rh _), ?_⟩
        rintro _ _ ⟨rfl, rfl⟩
        repeat (first | (refine ⟨fun h => ?_, fun h => ?_⟩; rotate_left 1; (focus (exfalso; (first | (with_reducible (cases h; done)) | (revert h; simp; done) | (revert h; simp; omega) | (revert h; simp [*]; done)))); clear h) | (refine ⟨fun h => ?_, fun h => ?_⟩; (focus (exfalso; (first | (with_reducible (cases h; done)) | (revert h; simp; done) | (revert h; simp; omega) | (revert h; simp [*]; done)))); clear h))
        exact ⟨_, Ent.refl _, rfl, rfl⟩
      · repeat (first | (refine ⟨fun h => ?_, fun h => ?_⟩; rotate_left 1; (focus (exfalso; (first | (with_reducible (cases h; done)) | (revert h; simp; done) | (revert h; simp; omega) | (revert h; simp [*]; done)))); clear h) | (refine ⟨fun h => ?_, fun h => ?_⟩; (focus (exfalso; (first | (with_reducible (cases h; done)) | (revert h; simp; done) | (revert h; simp; omega) | (revert h; simp [*]; done)))); clear h))
        exact ⟨_, Ent.refl _, rfl, rfl⟩

end Go.Proofs.YtgbdfpfiolbhlaaDoor
