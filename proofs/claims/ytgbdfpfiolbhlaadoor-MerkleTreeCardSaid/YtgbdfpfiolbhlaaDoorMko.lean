/-
  Contracts: the reference's proofs; prefixed, found.
-/
import Derived.Test.YtgbdfpfiolbhlaaDoorMke
import Derived.Test.YtgbdfpfiolbhlaaDoorMkk
import Derived.Test.YtgbdfpfiolbhlaaDoorMkn
namespace Go.Proofs.YtgbdfpfiolbhlaaDoor
open Go Go.RowKit
set_option linter.unusedVariables false

theorem proofR_le : ∀ (n : Nat) (l : List Str) (m : Nat) (b : Bool), l.length = n → (proofR l m b).length ≤ n + 1 := by
  intro n
  induction n using Nat.strongRecOn with
  | _ n ih =>
  intro l m b hn
  by_cases e : m = l.length
  · rw [proofR_eq e]; split <;> simp
  by_cases h1 : l.length ≤ 1
  · rw [proofR, dif_pos (.inr h1)]; split <;> simp
  have h2 : 2 ≤ l.length := by omega
  have hk := splitN_lt h2
  have hk0 := splitN_pos l.length
  by_cases c : m ≤ splitN l.length
  · rw [proofR_lo e h2 c, List.length_cons]
    have := ih (splitN l.length) (by omega) (l.take (splitN l.length)) m b (by rw [List.length_take]; omega)
    omega
  · rw [proofR_hi e h2 c, List.length_cons]
    have := ih (l.length - splitN l.length) (by omega) (l.drop (splitN l.length)) (m - splitN l.length) false (by rw [List.length_drop])
    omega

set_option maxRecDepth 100000 in
theorem refproof_ok : ∀ (n : Nat) (R : Rd) (l : List Str) (m : Nat) (b : Bool) (v0 : Value), l.length = n → 1 ≤ m → m ≤ n → Small l → Ss R v0 l →
    Fn Tryd.prog 70 [v0, .int .i64 m, .bool b] [] R (fun v h => OwnT v (proofR l m b).reverse h) := by
  have hML := maxLen_eq
  intro n
  induction n using Nat.strongRecOn with
  | _ n ih =>
  intro R l m b v0 hn hm1 hm hsm hs
  have hs' := hs
  obtain ⟨A, cap, rfl, hc, hsr⟩ := hs
  have hs : Ss R (.slice A l.length cap) l := ⟨A, cap, rfl, hc, hsr⟩
  have hlen := hsm.1
  refine fn_of_vc mixed tabOk Tryd.func70 rfl (by kernel_rfl) (Nat.le_of_ble_eq_true rfl) ?_
  by_cases e : m = l.length
  · repeat (first | (refine ⟨fun h => ?_, fun h => ?_⟩; rotate_left 1; (focus (exfalso; (first | (with_reducible (cases h; done)) | (revert h; simp; done) | (revert h; simp; omega) | (revert h; simp [*]; done)))); clear h) | (refine ⟨fun h => ?_, fun h => ?_⟩; (focus (exfalso; (first | (with_reducible (cases h; done)) | (revert h; simp; done) | (revert h; simp; omega) | (revert h; simp [*]; done)))); clear h))
    cases b
    · repeat (first | (refine ⟨fun h => ?_, fun h => ?_⟩; rotate_left 1; (focus (exfalso; (first | (with_reducible (cases h; done)) | (revert h; simp; done) | (revert h; simp; omega) | (revert h; simp [*]; done)))); clear h) | (refine ⟨fun h => ?_, fun h => ?_⟩; (focus (exfalso; (first | (with_reducible (cases h; done)) | (revert h; simp; done) | (revert h; simp; omega) | (revert h; simp [*]; done)))); clear h))
      refine ⟨[], _, refRoot_ok _ _ l _ rfl hsm (hs'.rh _), ?_⟩
      rintro _ _ ⟨rfl, rfl⟩
      refine ⟨rfl, fun g => ?_⟩
      refine ⟨_, Ent.refl _, some ⟨g, 0, .none⟩, 1, 1, _, rfl, rfl, ?_, ?_, .inr ⟨g, rfl⟩⟩
      · rw [proofR_eq e]; rfl
      · rw [proofR_eq e]; rfl
    · repeat (first | (refine ⟨fun h => ?_, fun h => ?_⟩; rotate_left 1; (focus (exfalso; (first | (with_reducible (cases h; done)) | (revert h; simp; done) | (revert h; simp; omega) | (revert h; simp [*]; done)))); clear h) | (refine ⟨fun h => ?_, fun h => ?_⟩; (focus (exfalso; (first | (with_reducible (cases h; done)) | (revert h; simp; done) | (revert h; simp; omega) | (revert h; simp [*]; done)))); clear h))
      refine ⟨rfl, fun g => ?_⟩
      refine ⟨_, Ent.refl _, some ⟨g, 0, .none⟩, 0, 0, [], rfl, rfl, ?_, ?_, .inl rfl⟩
      · rw [proofR_eq e]; rfl
      · rw [proofR_eq e]; rfl
  have h2 : 2 ≤ l.length := by omega
  have hk := splitN_lt h2
  have hk0 := splitN_pos l.length
  repeat (first | (refine ⟨fun h => ?_, fun h => ?_⟩; rotate_left 1; (focus (exfalso; (first | (with_reducible (cases h; done)) | (revert h; simp; done) | (revert h; simp; omega) | (revert h; simp [*]; done)))); clear h) | (refine ⟨fun h => ?_, fun h => ?_⟩; (focus (exfalso; (first | (with_reducible (cases h; done)) | (revert h; simp; done) | (revert h; simp; omega) | (revert h; simp [*]; done)))); clear h))
  refine ⟨[], _, Split_ok _ l.length h2 (by omega), ?_⟩
  rintro _ _ ⟨rfl, rfl⟩
  refine ⟨fun hb => ?_, fun hb => ?_⟩
  · replace hb := of_decide_eq_true hb
    have hik : m ≤ splitN l.length := by omega
    clear hb
    refine ⟨[], (.q 0 (.q 1 (.q 2 (.q 3 (.q 4 (.q 6 (.q 7 (.q 8 (.one 5 (.one 9 (.one 10 (.one 11 (.q 12 .nil))))))))))))), by kernel_rfl, ?_⟩
    refine ⟨0, splitN l.length, rfl, rfl, by omega, by omega, ?_⟩
    refine ⟨splitN l.length, l.length, rfl, rfl, by omega, by omega, ?_⟩
    refine ⟨[], _, ih (splitN l.length) (by omega) _ (l.take (splitN l.length)) m b _ (by rw [List.length_take]; omega) hm1 hik (hsm.take _) (((hs.take (by omega)).rh _).rh _), ?_⟩
    rintro _ _ ⟨A, k, cap, xs, rfl, rfl, hkl, hxs, hg⟩
    have hpl := proofR_le (splitN l.length) (l.take (splitN l.length)) m b (by rw [List.length_take]; omega)
    rw [List.length_reverse] at hkl
    refine ⟨[], _, refRoot_ok _ _ (l.drop (splitN l.length)) _ rfl (hsm.drop _) (((hs.drop (by omega)).rh _).rh _), ?_⟩
    rintro _ _ ⟨rfl, rfl⟩
    refine ⟨rfl, fun g => ?_⟩
    refine ⟨[.string ⟨⟨rootOf (l.drop (splitN l.length))⟩⟩], rfl, rdRow 1 rfl, rfl, by show (_ + _) * 16 ≤ _; omega, by omega, .inr ⟨0, rfl, rfl, rfl, rfl, rfl, rfl, fun A' cap' hg' => ?_⟩⟩
    refine ⟨_, Ent.drop [_] [_], A', _, cap', _, rfl, rfl, ?_, ?_, hg'⟩
    · rw [proofR_lo e h2 hik, List.length_reverse, List.length_cons, ← hkl]
    · rw [proofR_lo e h2 hik, List.reverse_cons, ← SV_snoc, hxs]
  · replace hb := of_decide_eq_false hb
    have hik : ¬ m ≤ splitN l.length := by omega
    clear hb
    refine ⟨[], (.q 0 (.q 1 (.q 2 (.q 3 (.q 4 (.q 5 (.q 7 (.q 8 (.q 9 (.one 6 (.one 10 (.one 11 (.one 12 (.q 13 .nil)))))))))))))), by kernel_rfl, ?_⟩
    refine ⟨splitN l.length, l.length, rfl, rfl, by omega, by omega, ?_⟩
    (intro z hz; obtain rfl : z = ((m - splitN l.length : Nat) : Int) := (by first | (rw [IntKind.wrap_i64] at hz; omega) | (rw [IntKind.wrap_u64] at hz; omega) | omega); clear hz)
    refine ⟨0, splitN l.length, rfl, rfl, by omega, by omega, ?_⟩
    refine ⟨[], _, ih (l.length - splitN l.length) (by omega) _ (l.drop (splitN l.length)) (m - splitN l.length) false _ (by rw [List.length_drop]) (by omega) (by omega) (hsm.drop _) (((hs.drop (by omega)).rh _).rh _), ?_⟩
    rintro _ _ ⟨A, k, cap, xs, rfl, rfl, hkl, hxs, hg⟩
    have hpl := proofR_le (l.length - splitN l.length) (l.drop (splitN l.length)) (m - splitN l.length) false (by rw [List.length_drop])
    rw [List.length_reverse] at hkl
    refine ⟨[], _, refRoot_ok _ _ (l.take (splitN l.length)) _ rfl (hsm.take _) (((hs.take (by omega)).rh _).rh _), ?_⟩
    rintro _ _ ⟨rfl, rfl⟩
    refine ⟨rfl, fun g => ?_⟩
    refine ⟨[.string ⟨⟨rootOf (l.take (splitN l.length))⟩⟩], rfl, rdRow 1 rfl, rfl, by show (_ + _) * 16 ≤ _; omega, by omega, .inr ⟨0, rfl, rfl, rfl, rfl, rfl, rfl, fun A' cap' hg' => ?_⟩⟩
    refine ⟨_, Ent.drop [_] [_], A', _, cap', _, rfl, rfl, ?_, ?_, hg'⟩
    · rw [proofR_hi e h2 hik, List.length_reverse, List.length_cons, ← hkl]
    · rw [proofR_hi e h2 hik, List.reverse_cons, ← SV_snoc, hxs]

def consOf (l : List Str) (m n : Nat) : List Str := if m = 0 then [] else (proofR (l.take n) m true).reverse
/-- What Consistency answers: a proof, or an error. -/
def ConsPost (l : List Str) (m n : Int) (v : Value) (h : Hp) : Prop :=
  ∃ A k cap xs, h = [.row A k cap 9 1 xs (0, 0)] ∧ grow k A ∧
    ((¬ (0 ≤ m ∧ m ≤ n ∧ n ≤ l.length) ∧ v = .tuple ⟨[.slice A k cap, .int .i64 1]⟩ ∧ k = 0 ∧ xs = []) ∨ (0 ≤ m ∧ m ≤ n ∧ n ≤ l.length ∧ v = .tuple ⟨[.slice A k cap, .int .i64 0]⟩ ∧ k = (consOf l m.toNat n.toNat).length ∧ xs = SV (consOf l m.toNat n.toNat)))

set_option maxRecDepth 100000 in
theorem refConsistency_ok (R : Rd) (l : List Str) (m n : Int) (v0 : Value) (hsm : Small l) (hs : Ss R v0 l) :
    Fn Tryd.prog 33 [v0, .int .i64 m, .int .i64 n] [] R (fun v h => ConsPost l m n v h) := by
  have hs' := hs
  obtain ⟨A, cap, rfl, hc, hsr⟩ := hs
  have hbig := hsm.1
  refine fn_of_vc mixed tabOk Tryd.func33 rfl (by kernel_rfl) (Nat.le_of_ble_eq_true rfl) ?_
  by_cases c1 : m < 0
  · repeat (first | (refine ⟨fun h => ?_, fun h => ?_⟩; rotate_left 1; (focus (exfalso; (first | (with_reducible (cases h; done)) | (revert h; simp; done) | (revert h; simp; omega) | (revert h; simp [*]; done)))); clear h) | (refine ⟨fun h => ?_, fun h => ?_⟩; (focus (exfalso; (first | (with_reducible (cases h; done)) | (revert h; simp; done) | (revert h; simp; omega) | (revert h; simp [*]; done)))); clear h))
    exact ⟨_, Ent.nilrow [] 9 1, .none, 0, 0, [], rfl, .inl rfl, .inl ⟨by omega, rfl, rfl, rfl⟩⟩
  by_cases c2 : n < m
  · repeat (first | (refine ⟨fun h => ?_, fun h => ?_⟩; rotate_left 1; (focus (exfalso; (first | (with_reducible (cases h; done)) | (revert h; simp; done) | (revert h; simp; omega) | (revert h; simp [*]; done)))); clear h) | (refine ⟨fun h => ?_, fun h => ?_⟩; (focus (exfalso; (first | (with_reducible (cases h; done)) | (revert h; simp; done) | (revert h; simp; omega) | (revert h; simp [*]; done)))); clear h))
    exact ⟨_, Ent.nilrow [] 9 1, .none, 0, 0, [], rfl, .inl rfl, .inl ⟨by omega, rfl, rfl, rfl⟩⟩
  by_cases c3 : (l.length : Int) < n
  · repeat (first | (refine ⟨fun h => ?_, fun h => ?_⟩; rotate_left 1; (focus (exfalso; (first | (with_reducible (cases h; done)) | (revert h; simp; done) | (revert h; simp; omega) | (revert h; simp [*]; done)))); clear h) | (refine ⟨fun h => ?_, fun h => ?_⟩; (focus (exfalso; (first | (with_reducible (cases h; done)) | (revert h; simp; done) | (revert h; simp; omega) | (revert h; simp [*]; done)))); clear h))
    exact ⟨_, Ent.nilrow [] 9 1, .none, 0, 0, [], rfl, .inl rfl, .inl ⟨by omega, rfl, rfl, rfl⟩⟩
  obtain ⟨m, rfl⟩ := Int.eq_ofNat_of_zero_le (show 0 ≤ m by omega)
  obtain ⟨n, rfl⟩ := Int.eq_ofNat_of_zero_le (show 0 ≤ n by omega)
  by_cases c4 : m = 0
  · subst c4
    repeat (first | (refine ⟨fun h => ?_, fun h => ?_⟩; rotate_left 1; (focus (exfalso; (first | (with_reducible (cases h; done)) | (revert h; simp; done) | (revert h; simp; omega) | (revert h; simp [*]; done)))); clear h) | (refine ⟨fun h => ?_, fun h => ?_⟩; (focus (exfalso; (first | (with_reducible (cases h; done)) | (revert h; simp; done) | (revert h; simp; omega) | (revert h; simp [*]; done)))); clear h))
    refine ⟨rfl, fun g => ?_⟩
    exact ⟨_, Ent.refl _, some ⟨g, 0, .none⟩, 0, 0, [], rfl, .inl rfl, .inr ⟨by omega, by omega, by omega, rfl, rfl, rfl⟩⟩
  repeat (first | (refine ⟨fun h => ?_, fun h => ?_⟩; rotate_left 1; (focus (exfalso; (first | (with_reducible (cases h; done)) | (revert h; simp; done) | (revert h; simp; omega) | (revert h; simp [*]; done)))); clear h) | (refine ⟨fun h => ?_, fun h => ?_⟩; (focus (exfalso; (first | (with_reducible (cases h; done)) | (revert h; simp; done) | (revert h; simp; omega) | (revert h; simp [*]; done)))); clear h))
  refine ⟨0, n, rfl, rfl, by omega, by omega, ?_⟩
  have htl : (l.take n).length = n := by rw [List.length_take]; omega
  refine ⟨[], _, refproof_ok n _ (l.take n) m true _ htl (by omega) (by omega) (hsm.take _) ((hs'.take (by omega)).rh _), ?_⟩
  rintro _ _ ⟨A, k, cap, xs, rfl, rfl, hkl, hxs, hg⟩
  refine ⟨_, Ent.refl _, A, k, cap, xs, rfl, hg, .inr ⟨by omega, by omega, by omega, rfl, ?_, ?_⟩⟩
  · simp only [Int.toNat_natCast, consOf, if_neg c4]; exact hkl
  · simp only [Int.toNat_natCast, consOf, if_neg c4]; exact hxs

end Go.Proofs.YtgbdfpfiolbhlaaDoor
