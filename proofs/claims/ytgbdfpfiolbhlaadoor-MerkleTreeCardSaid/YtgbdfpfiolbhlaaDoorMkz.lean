/-
  Trees that grow: proofs of consistency (read only).
-/
import Derived.Test.YtgbdfpfiolbhlaaDoorMky
namespace Go.Proofs.YtgbdfpfiolbhlaaDoor
open Go Go.RowKit
set_option linter.unusedVariables false

theorem split_dvd {n j start : Nat} (h2n : 2 ≤ n) (hnj : n ≤ 2 ^ j) (hdv : 2 ^ j ∣ start) : splitN n ∣ start := by
  have hk := splitN_lt h2n
  have hej : Nat.log2 (n - 1) ≤ j := by
    rcases Nat.lt_or_ge j (Nat.log2 (n - 1)) with h | h
    · have := Nat.pow_lt_pow_right (a := 2) (by omega) h
      unfold splitN at hk
      omega
    · exact h
  exact Nat.dvd_trans (Nat.pow_dvd_pow 2 hej) hdv

set_option maxRecDepth 100000 in
theorem proof_ok (g : Nat) (l : List Str) (hl : Small l) (hl6 : l.length ≤ 1000000) : ∀ (n : Nat) (R : Rd) (hG : ShaG R) (hT : TreeR R g l) (start m j : Nat) (b : Bool), start + n ≤ l.length → n ≤ 2 ^ j → 2 ^ j ∣ start → 1 ≤ m → m ≤ n →
    Fn Tryd.prog 75 [.pointer (some ⟨g, 0, .none⟩), .int .i64 start, .int .i64 m, .int .i64 n, .bool b] [] R (fun v h => OwnT v (proofR ((l.drop start).take n) m b).reverse h) := by
  have hML := maxLen_eq
  intro n
  induction n using Nat.strongRecOn with
  | _ n ih =>
  intro R hG hT start m j b hsn hnj hdv hm1 hmn
  have hlen : ((l.drop start).take n).length = n := by rw [List.length_take, List.length_drop]; omega
  refine fn_of_vc mixed tabOk Tryd.func75 rfl (by kernel_rfl) (Nat.le_of_ble_eq_true rfl) ?_
  by_cases e : m = n
  · have e' : m = ((l.drop start).take n).length := by omega
    repeat (first | (refine ⟨fun h => ?_, fun h => ?_⟩; rotate_left 1; (focus (exfalso; (first | (with_reducible (cases h; done)) | (revert h; simp; done) | (revert h; simp; omega) | (revert h; simp [*]; done)))); clear h) | (refine ⟨fun h => ?_, fun h => ?_⟩; (focus (exfalso; (first | (with_reducible (cases h; done)) | (revert h; simp; done) | (revert h; simp; omega) | (revert h; simp [*]; done)))); clear h))
    cases b
    · repeat (first | (refine ⟨fun h => ?_, fun h => ?_⟩; rotate_left 1; (focus (exfalso; (first | (with_reducible (cases h; done)) | (revert h; simp; done) | (revert h; simp; omega) | (revert h; simp [*]; done)))); clear h) | (refine ⟨fun h => ?_, fun h => ?_⟩; (focus (exfalso; (first | (with_reducible (cases h; done)) | (revert h; simp; done) | (revert h; simp; omega) | (revert h; simp [*]; done)))); clear h))
      refine ⟨[], _, part_ok g l hl hl6 n _ (hG.rh _) (hT.rh _) start j hsn hnj hdv, ?_⟩
      rintro _ _ ⟨rfl, rfl⟩
      refine ⟨rfl, fun g2 => ?_⟩
      refine ⟨_, Ent.refl _, some ⟨g2, 0, .none⟩, 1, 1, _, rfl, rfl, ?_, ?_, .inr ⟨g2, rfl⟩⟩
      · rw [proofR_eq e']; rfl
      · rw [proofR_eq e']; rfl
    · repeat (first | (refine ⟨fun h => ?_, fun h => ?_⟩; rotate_left 1; (focus (exfalso; (first | (with_reducible (cases h; done)) | (revert h; simp; done) | (revert h; simp; omega) | (revert h; simp [*]; done)))); clear h) | (refine ⟨fun h => ?_, fun h => ?_⟩; (focus (exfalso; (first | (with_reducible (cases h; done)) | (revert h; simp; done) | (revert h; simp; omega) | (revert h; simp [*]; done)))); clear h))
      refine ⟨_, Ent.nilrow [] 9 1, .none, 0, 0, [], rfl, rfl, ?_, ?_, .inl rfl⟩
      · rw [proofR_eq e']; rfl
      · rw [proofR_eq e']; rfl
  have e' : m ≠ ((l.drop start).take n).length := by omega
  have h2n : 2 ≤ n := by omega
  have h2' : 2 ≤ ((l.drop start).take n).length := by omega
  have hk := splitN_lt h2n
  have hk0 := splitN_pos n
  have hk1 := splitN_ge h2n
  have hde := split_dvd h2n hnj hdv
  have htk : ((l.drop start).take n).take (splitN n) = (l.drop start).take (splitN n) := by rw [List.take_take, Nat.min_eq_left (by omega)]
  have hdk : ((l.drop start).take n).drop (splitN n) = (l.drop (start + splitN n)).take (n - splitN n) := by rw [List.drop_take, List.drop_drop]
  repeat (first | (refine ⟨fun h => ?_, fun h => ?_⟩; rotate_left 1; (focus (exfalso; (first | (with_reducible (cases h; done)) | (revert h; simp; done) | (revert h; simp; omega) | (revert h; simp [*]; done)))); clear h) | (refine ⟨fun h => ?_, fun h => ?_⟩; (focus (exfalso; (first | (with_reducible (cases h; done)) | (revert h; simp; done) | (revert h; simp; omega) | (revert h; simp [*]; done)))); clear h))
  refine ⟨[], _, split_ok _ n h2n (by omega), ?_⟩
  rintro _ _ ⟨rfl, rfl⟩
  by_cases hik : m ≤ splitN n
  · have hpr : proofR ((l.drop start).take n) m b = rootOf ((l.drop (start + splitN n)).take (n - splitN n)) :: proofR ((l.drop start).take (splitN n)) m b := by
      rw [proofR_lo e' h2' (by rw [hlen]; exact hik), hlen, htk, hdk]
    have hpl := proofR_le (splitN n) ((l.drop start).take (splitN n)) m b (by rw [List.length_take, List.length_drop]; omega)
    repeat (first | (refine ⟨fun h => ?_, fun h => ?_⟩; rotate_left 1; (focus (exfalso; (first | (with_reducible (cases h; done)) | (revert h; simp; done) | (revert h; simp; omega) | (revert h; simp [*]; done)))); clear h) | (refine ⟨fun h => ?_, fun h => ?_⟩; (focus (exfalso; (first | (with_reducible (cases h; done)) | (revert h; simp; done) | (revert h; simp; omega) | (revert h; simp [*]; done)))); clear h))
    refine ⟨[], _, ih (splitN n) hk _ (hG.rh _) (hT.rh _) start m (Nat.log2 (n - 1)) b (by omega) (Nat.le_refl _) hde hm1 hik, ?_⟩
    rintro _ _ ⟨A, k, cap, xs, rfl, rfl, hkl, hxs, hg⟩
    rw [List.length_reverse] at hkl
    (intro z hz; obtain rfl : z = ((start + splitN n : Nat) : Int) := (by first | (rw [IntKind.wrap_i64] at hz; omega) | (rw [IntKind.wrap_u64] at hz; omega) | omega); clear hz)
    (intro z hz; obtain rfl : z = ((n - splitN n : Nat) : Int) := (by first | (rw [IntKind.wrap_i64] at hz; omega) | (rw [IntKind.wrap_u64] at hz; omega) | omega); clear hz)
    refine ⟨[], _, part_ok g l hl hl6 (n - splitN n) _ (hG.rh _) (hT.rh _) (start + splitN n) (Nat.log2 (n - 1)) (by omega) (by show _ ≤ splitN n; omega) (Nat.dvd_add hde (Nat.dvd_refl _)), ?_⟩
    rintro _ _ ⟨rfl, rfl⟩
    refine ⟨rfl, fun g2 => ?_⟩
    refine ⟨[.string ⟨⟨rootOf ((l.drop (start + splitN n)).take (n - splitN n))⟩⟩], rfl, rdRow 1 rfl, rfl, by show (_ + _) * 16 ≤ _; omega, by omega, .inr ⟨0, rfl, rfl, rfl, rfl, rfl, rfl, fun A' cap' hg' => ?_⟩⟩
    refine ⟨_, Ent.drop [_] [_], A', _, cap', _, rfl, rfl, ?_, ?_, hg'⟩
    · rw [hpr, List.length_reverse, List.length_cons, ← hkl]
    · rw [hpr, List.reverse_cons, ← SV_snoc, hxs]
  · have hpr : proofR ((l.drop start).take n) m b = rootOf ((l.drop start).take (splitN n)) :: proofR ((l.drop (start + splitN n)).take (n - splitN n)) (m - splitN n) false := by
      rw [proofR_hi e' h2' (by rw [hlen]; exact hik), hlen, htk, hdk]
    have hpl := proofR_le (n - splitN n) ((l.drop (start + splitN n)).take (n - splitN n)) (m - splitN n) false (by rw [List.length_take, List.length_drop]; omega)
    repeat (first | (refine ⟨fun h => ?_, fun h => ?_⟩; rotate_left 1; (focus (exfalso; (first | (with_reducible (cases h; done)) | (revert h; simp; done) | (revert h; simp; omega) | (revert h; simp [*]; done)))); clear h) | (refine ⟨fun h => ?_, fun h => ?_⟩; (focus (exfalso; (first | (with_reducible (cases h; done)) | (revert h; simp; done) | (revert h; simp; omega) | (revert h; simp [*]; done)))); clear h))
    (intro z hz; obtain rfl : z = ((start + splitN n : Nat) : Int) := (by first | (rw [IntKind.wrap_i64] at hz; omega) | (rw [IntKind.wrap_u64] at hz; omega) | omega); clear hz)
    (intro z hz; obtain rfl : z = ((m - splitN n : Nat) : Int) := (by first | (rw [IntKind.wrap_i64] at hz; omega) | (rw [IntKind.wrap_u64] at hz; omega) | omega); clear hz)
    (intro z hz; obtain rfl : z = ((n - splitN n : Nat) : Int) := (by first | (rw [IntKind.wrap_i64] at hz; omega) | (rw [IntKind.wrap_u64] at hz; omega) | omega); clear hz)
    refine ⟨[], _, ih (n - splitN n) (by omega) _ (hG.rh _) (hT.rh _) (start + splitN n) (m - splitN n) (Nat.log2 (n - 1)) false (by omega) (by show _ ≤ splitN n; omega) (Nat.dvd_add hde (Nat.dvd_refl _)) (by omega) (by omega), ?_⟩
    rintro _ _ ⟨A, k, cap, xs, rfl, rfl, hkl, hxs, hg⟩
    rw [List.length_reverse] at hkl
    refine ⟨[], _, part_ok g l hl hl6 (splitN n) _ (hG.rh _) (hT.rh _) start (Nat.log2 (n - 1)) (by omega) (Nat.le_refl _) hde, ?_⟩
    rintro _ _ ⟨rfl, rfl⟩
    refine ⟨rfl, fun g2 => ?_⟩
    refine ⟨[.string ⟨⟨rootOf ((l.drop start).take (splitN n))⟩⟩], rfl, rdRow 1 rfl, rfl, by show (_ + _) * 16 ≤ _; omega, by omega, .inr ⟨0, rfl, rfl, rfl, rfl, rfl, rfl, fun A' cap' hg' => ?_⟩⟩
    refine ⟨_, Ent.drop [_] [_], A', _, cap', _, rfl, rfl, ?_, ?_, hg'⟩
    · rw [hpr, List.length_reverse, List.length_cons, ← hkl]
    · rw [hpr, List.reverse_cons, ← SV_snoc, hxs]

set_option maxRecDepth 100000 in
theorem TConsistency_ok (R : Rd) (hG : ShaG R) (g : Nat) (l : List Str) (hT : TreeR R g l) (hl : Small l) (hl6 : l.length ≤ 1000000) (m n : Int) :
    Fn Tryd.prog 48 [.pointer (some ⟨g, 0, .none⟩), .int .i64 m, .int .i64 n] [] R (fun v h => ConsPost l m n v h) := by
  refine fn_of_vc mixed tabOk Tryd.func48 rfl (by kernel_rfl) (Nat.le_of_ble_eq_true rfl) ?_
  by_cases c1 : m < 0
  · repeat (first | (refine ⟨fun h => ?_, fun h => ?_⟩; rotate_left 1; (focus (exfalso; (first | (with_reducible (cases h; done)) | (revert h; simp; done) | (revert h; simp; omega) | (revert h; simp [*]; done)))); clear h) | (refine ⟨fun h => ?_, fun h => ?_⟩; (focus (exfalso; (first | (with_reducible (cases h; done)) | (revert h; simp; done) | (revert h; simp; omega) | (revert h; simp [*]; done)))); clear h))
    exact ⟨_, Ent.nilrow [] 9 1, .none, 0, 0, [], rfl, .inl rfl, .inl ⟨by omega, rfl, rfl, rfl⟩⟩
  by_cases c2 : n < m
  · repeat (first | (refine ⟨fun h => ?_, fun h => ?_⟩; rotate_left 1; (focus (exfalso; (first | (with_reducible (cases h; done)) | (revert h; simp; done) | (revert h; simp; omega) | (revert h; simp [*]; done)))); clear h) | (refine ⟨fun h => ?_, fun h => ?_⟩; (focus (exfalso; (first | (with_reducible (cases h; done)) | (revert h; simp; done) | (revert h; simp; omega) | (revert h; simp [*]; done)))); clear h))
    exact ⟨_, Ent.nilrow [] 9 1, .none, 0, 0, [], rfl, .inl rfl, .inl ⟨by omega, rfl, rfl, rfl⟩⟩
  repeat (first | (refine ⟨fun h => ?_, fun h => ?_⟩; rotate_left 1; (focus (exfalso; (first | (with_reducible (cases h; done)) | (revert h; simp; done) | (revert h; simp; omega) | (revert h; simp [*]; done)))); clear h) | (refine ⟨fun h => ?_, fun h => ?_⟩; (focus (exfalso; (first | (with_reducible (cases h; done)) | (revert h; simp; done) | (revert h; simp; omega) | (revert h; simp [*]; done)))); clear h))
  refine ⟨[], _, TLen_ok _ g l (hT.rh _), ?_⟩
  rintro _ _ ⟨rfl, rfl⟩
  by_cases c3 : (l.length : Int) < n
  · repeat (first | (refine ⟨fun h => ?_, fun h => ?_⟩; rotate_left 1; (focus (exfalso; (first | (with_reducible (cases h; done)) | (revert h; simp; done) | (revert h; simp; omega) | (revert h; simp [*]; done)))); clear h) | (refine ⟨fun h => ?_, fun h => ?_⟩; (focus (exfalso; (first | (with_reducible (cases h; done)) | (revert h; simp; done) | (revert h; simp; omega) | (revert h; simp [*]; done)))); clear h))
    exact ⟨_, Ent.nilrow [] 9 1, .none, 0, 0, [], rfl, .inl rfl, .inl ⟨by omega, rfl, rfl, rfl⟩⟩
  obtain ⟨m, rfl⟩ := Int.eq_ofNat_of_zero_le (show 0 ≤ m by omega)
  obtain ⟨n, rfl⟩ := Int.eq_ofNat_of_zero_le (show 0 ≤ n by omega)
  by_cases c4 : m = 0
  · subst c4
    repeat (first | (refine ⟨fun h => ?_, fun h => ?_⟩; rotate_left 1; (focus (exfalso; (first | (with_reducible (cases h; done)) | (revert h; simp; done) | (revert h; simp; omega) | (revert h; simp [*]; done)))); clear h) | (refine ⟨fun h => ?_, fun h => ?_⟩; (focus (exfalso; (first | (with_reducible (cases h; done)) | (revert h; simp; done) | (revert h; simp; omega) | (revert h; simp [*]; done)))); clear h))
    exact ⟨_, Ent.nilrow [] 9 1, .none, 0, 0, [], rfl, .inl rfl, .inr ⟨by omega, by omega, by omega, rfl, rfl, rfl⟩⟩
  repeat (first | (refine ⟨fun h => ?_, fun h => ?_⟩; rotate_left 1; (focus (exfalso; (first | (with_reducible (cases h; done)) | (revert h; simp; done) | (revert h; simp; omega) | (revert h; simp [*]; done)))); clear h) | (refine ⟨fun h => ?_, fun h => ?_⟩; (focus (exfalso; (first | (with_reducible (cases h; done)) | (revert h; simp; done) | (revert h; simp; omega) | (revert h; simp [*]; done)))); clear h))
  refine ⟨[], _, proof_ok g l hl hl6 n _ (hG.rh _) (hT.rh _) 0 m 20 true (by omega) (by show n ≤ 1048576; omega) (Nat.dvd_zero _) (by omega) (by omega), ?_⟩
  rintro _ _ ⟨A, k, cap, xs, rfl, rfl, hkl, hxs, hg⟩
  rw [List.drop_zero] at hkl hxs
  refine ⟨_, Ent.refl _, A, k, cap, xs, rfl, hg, .inr ⟨by omega, by omega, by omega, rfl, ?_, ?_⟩⟩
  · simp only [Int.toNat_natCast, consOf, if_neg c4]; exact hkl
  · simp only [Int.toNat_natCast, consOf, if_neg c4]; exact hxs

end Go.Proofs.YtgbdfpfiolbhlaaDoor
