/-
  Trees that grow: paths (read only).
-/
import Derived.Test.YtgbdfpfiolbhlaaDoorMkz
namespace Go.Proofs.YtgbdfpfiolbhlaaDoor
open Go Go.RowKit
set_option linter.unusedVariables false

set_option maxRecDepth 100000 in
set_option maxHeartbeats 1000000 in
theorem pathA_ok (fr : FuncId) (c : Value) (F : Nat → Nat → Str) (N : Nat) (hN : N ≤ 1000000000) : ∀ (n : Nat) (R : Rd) (start i j : Nat),
    (∀ R' : Rd, (∀ a v, R a v → R' a v) → ∀ s m j, s + m ≤ N → m ≤ 2 ^ j → 2 ^ j ∣ s → Fn Tryd.prog fr [c, .int .i64 s, .int .i64 m] [] R' (fun v h => v = .string ⟨⟨F s m⟩⟩ ∧ h = [])) →
    i < n → start + n ≤ N → n ≤ 2 ^ j → 2 ^ j ∣ start →
    Fn Tryd.prog 61 [.func (.func fr) #[c] #[], .int .i64 start, .int .i64 i, .int .i64 n] [] R (fun v h => OwnT v (pathG F start n i).reverse h) := by
  have hML := maxLen_eq
  intro n
  induction n using Nat.strongRecOn with
  | _ n ih =>
  intro R start i j hF hi hle hnj hdv
  refine fn_of_vc mixed tabOk Tryd.func61 rfl (by kernel_rfl) (Nat.le_of_ble_eq_true rfl) ?_
  refine ⟨fun hb => ?_, fun hb => ?_⟩
  · replace hb := of_decide_eq_true hb
    obtain rfl : n = 1 := by omega
    refine ⟨_, Ent.nilrow [] 9 1, .none, 0, 0, [], rfl, rfl, ?_, ?_, .inl rfl⟩
    · rw [pathG_one (Nat.le_refl _)]; rfl
    · rw [pathG_one (Nat.le_refl _)]; rfl
  replace hb := of_decide_eq_false hb
  have h2 : 2 ≤ n := by omega
  clear hb
  have hk := splitN_lt h2
  have hk0 := splitN_pos n
  have hk1 := splitN_ge h2
  have hde := split_dvd h2 hnj hdv
  refine ⟨[], _, split_ok _ n h2 (by omega), ?_⟩
  rintro _ _ ⟨rfl, rfl⟩
  refine ⟨fun hb => ?_, fun hb => ?_⟩
  · replace hb := of_decide_eq_true hb
    have hik : i < splitN n := by omega
    clear hb
    refine ⟨[], _, ih (splitN n) hk _ start i (Nat.log2 (n - 1)) (fun R' h => hF R' fun a v hv => h a v (.inl hv)) hik (by omega) (Nat.le_refl _) hde, ?_⟩
    rintro _ _ ⟨A, k, cap, xs, rfl, rfl, hkl, hxs, hg⟩
    have hpl := pathG_le F (splitN n) start i
    rw [List.length_reverse] at hkl
    (intro z hz; obtain rfl : z = ((start + splitN n : Nat) : Int) := (by first | (rw [IntKind.wrap_i64] at hz; omega) | (rw [IntKind.wrap_u64] at hz; omega) | omega); clear hz)
    (intro z hz; obtain rfl : z = ((n - splitN n : Nat) : Int) := (by first | (rw [IntKind.wrap_i64] at hz; omega) | (rw [IntKind.wrap_u64] at hz; omega) | omega); clear hz)
    refine ⟨[], _, hF _ (fun a v hv => .inl hv) (start + splitN n) (n - splitN n) (Nat.log2 (n - 1)) (by omega) (by show _ ≤ splitN n; omega) (Nat.dvd_add hde (Nat.dvd_refl _)), ?_⟩
    rintro _ _ ⟨rfl, rfl⟩
    refine ⟨rfl, fun g => ?_⟩
    refine ⟨[.string ⟨⟨F (start + splitN n) (n - splitN n)⟩⟩], rfl, rdRow 1 rfl, rfl, by show (_ + _) * 16 ≤ _; omega, by omega, .inr ⟨0, rfl, rfl, rfl, rfl, rfl, rfl, fun A' cap' hg' => ?_⟩⟩
    refine ⟨_, Ent.drop [_] [_], A', _, cap', _, rfl, rfl, ?_, ?_, hg'⟩
    · rw [pathG_lo h2 hik, List.length_reverse, List.length_cons]; omega
    · rw [pathG_lo h2 hik, List.reverse_cons, ← SV_snoc, hxs]
  · replace hb := of_decide_eq_false hb
    have hik : ¬ i < splitN n := by omega
    clear hb
    (intro z hz; obtain rfl : z = ((start + splitN n : Nat) : Int) := (by first | (rw [IntKind.wrap_i64] at hz; omega) | (rw [IntKind.wrap_u64] at hz; omega) | omega); clear hz)
    (intro z hz; obtain rfl : z = ((i - splitN n : Nat) : Int) := (by first | (rw [IntKind.wrap_i64] at hz; omega) | (rw [IntKind.wrap_u64] at hz; omega) | omega); clear hz)
    (intro z hz; obtain rfl : z = ((n - splitN n : Nat) : Int) := (by first | (rw [IntKind.wrap_i64] at hz; omega) | (rw [IntKind.wrap_u64] at hz; omega) | omega); clear hz)
    refine ⟨[], _, ih (n - splitN n) (by omega) _ (start + splitN n) (i - splitN n) (Nat.log2 (n - 1)) (fun R' h => hF R' fun a v hv => h a v (.inl hv)) (by omega) (by omega) (by show _ ≤ splitN n; omega) (Nat.dvd_add hde (Nat.dvd_refl _)), ?_⟩
    rintro _ _ ⟨A, k, cap, xs, rfl, rfl, hkl, hxs, hg⟩
    have hpl := pathG_le F (n - splitN n) (start + splitN n) (i - splitN n)
    rw [List.length_reverse] at hkl
    refine ⟨[], _, hF _ (fun a v hv => .inl hv) start (splitN n) (Nat.log2 (n - 1)) (by omega) (Nat.le_refl _) hde, ?_⟩
    rintro _ _ ⟨rfl, rfl⟩
    refine ⟨rfl, fun g => ?_⟩
    refine ⟨[.string ⟨⟨F start (splitN n)⟩⟩], rfl, rdRow 1 rfl, rfl, by show (_ + _) * 16 ≤ _; omega, by omega, .inr ⟨0, rfl, rfl, rfl, rfl, rfl, rfl, fun A' cap' hg' => ?_⟩⟩
    refine ⟨_, Ent.drop [_] [_], A', _, cap', _, rfl, rfl, ?_, ?_, hg'⟩
    · rw [pathG_hi h2 hik, List.length_reverse, List.length_cons]; omega
    · rw [pathG_hi h2 hik, List.reverse_cons, ← SV_snoc, hxs]


def TPathPost (l : List Str) (i n : Int) (v : Value) (h : Hp) : Prop :=
  ∃ A k cap xs, h = [.row A k cap 9 1 xs (0, 0)] ∧ grow k A ∧
    ((¬ (1 ≤ n ∧ n ≤ l.length ∧ 0 ≤ i ∧ i < n) ∧ v = .tuple ⟨[.slice A k cap, .int .i64 1]⟩ ∧ k = 0 ∧ xs = []) ∨
     (1 ≤ n ∧ n ≤ l.length ∧ 0 ≤ i ∧ i < n ∧ v = .tuple ⟨[.slice A k cap, .int .i64 0]⟩ ∧ k = (pathOf (l.take n.toNat) i.toNat).length ∧ xs = SV (pathOf (l.take n.toNat) i.toNat)))
theorem TreeR.mono {R R' : Rd} {g : Nat} {l : List Str} (h : TreeR R g l) (hr : ∀ a v, R a v → R' a v) : TreeR R' g l := by
  obtain ⟨gl, K, cl, lv, hK, h1, h2⟩ := h
  exact ⟨gl, K, cl, lv, hK, hr _ _ h1, fun j hj => ⟨(h2 j hj).1, hr _ _ (h2 j hj).2.1, (h2 j hj).2.2.1.mono hr, (h2 j hj).2.2.2⟩⟩

set_option maxRecDepth 100000 in
theorem TPath_ok (R : Rd) (hG : ShaG R) (g : Nat) (l : List Str) (hT : TreeR R g l) (hl : Small l) (hl6 : l.length ≤ 1000000) (i n : Int) :
    Fn Tryd.prog 49 [.pointer (some ⟨g, 0, .none⟩), .int .i64 i, .int .i64 n] [] R (fun v h => TPathPost l i n v h) := by
  refine fn_of_vc mixed tabOk Tryd.func49 rfl (by kernel_rfl) (Nat.le_of_ble_eq_true rfl) ?_
  by_cases c1 : n < 1
  · repeat (first | (refine ⟨fun h => ?_, fun h => ?_⟩; rotate_left 1; (focus (exfalso; (first | (with_reducible (cases h; done)) | (revert h; simp; done) | (revert h; simp; omega) | (revert h; simp [*]; done)))); clear h) | (refine ⟨fun h => ?_, fun h => ?_⟩; (focus (exfalso; (first | (with_reducible (cases h; done)) | (revert h; simp; done) | (revert h; simp; omega) | (revert h; simp [*]; done)))); clear h))
    exact ⟨_, Ent.nilrow [] 9 1, .none, 0, 0, [], rfl, .inl rfl, .inl ⟨by omega, rfl, rfl, rfl⟩⟩
  repeat (first | (refine ⟨fun h => ?_, fun h => ?_⟩; rotate_left 1; (focus (exfalso; (first | (with_reducible (cases h; done)) | (revert h; simp; done) | (revert h; simp; omega) | (revert h; simp [*]; done)))); clear h) | (refine ⟨fun h => ?_, fun h => ?_⟩; (focus (exfalso; (first | (with_reducible (cases h; done)) | (revert h; simp; done) | (revert h; simp; omega) | (revert h; simp [*]; done)))); clear h))
  refine ⟨[], _, TLen_ok _ g l (hT.rh _), ?_⟩
  rintro _ _ ⟨rfl, rfl⟩
  by_cases c2 : (l.length : Int) < n
  · repeat (first | (refine ⟨fun h => ?_, fun h => ?_⟩; rotate_left 1; (focus (exfalso; (first | (with_reducible (cases h; done)) | (revert h; simp; done) | (revert h; simp; omega) | (revert h; simp [*]; done)))); clear h) | (refine ⟨fun h => ?_, fun h => ?_⟩; (focus (exfalso; (first | (with_reducible (cases h; done)) | (revert h; simp; done) | (revert h; simp; omega) | (revert h; simp [*]; done)))); clear h))
    exact ⟨_, Ent.nilrow [] 9 1, .none, 0, 0, [], rfl, .inl rfl, .inl ⟨by omega, rfl, rfl, rfl⟩⟩
  by_cases c3 : i < 0
  · repeat (first | (refine ⟨fun h => ?_, fun h => ?_⟩; rotate_left 1; (focus (exfalso; (first | (with_reducible (cases h; done)) | (revert h; simp; done) | (revert h; simp; omega) | (revert h; simp [*]; done)))); clear h) | (refine ⟨fun h => ?_, fun h => ?_⟩; (focus (exfalso; (first | (with_reducible (cases h; done)) | (revert h; simp; done) | (revert h; simp; omega) | (revert h; simp [*]; done)))); clear h))
    exact ⟨_, Ent.nilrow [] 9 1, .none, 0, 0, [], rfl, .inl rfl, .inl ⟨by omega, rfl, rfl, rfl⟩⟩
  by_cases c4 : n ≤ i
  · repeat (first | (refine ⟨fun h => ?_, fun h => ?_⟩; rotate_left 1; (focus (exfalso; (first | (with_reducible (cases h; done)) | (revert h; simp; done) | (revert h; simp; omega) | (revert h; simp [*]; done)))); clear h) | (refine ⟨fun h => ?_, fun h => ?_⟩; (focus (exfalso; (first | (with_reducible (cases h; done)) | (revert h; simp; done) | (revert h; simp; omega) | (revert h; simp [*]; done)))); clear h))
    exact ⟨_, Ent.nilrow [] 9 1, .none, 0, 0, [], rfl, .inl rfl, .inl ⟨by omega, rfl, rfl, rfl⟩⟩
  obtain ⟨n, rfl⟩ := Int.eq_ofNat_of_zero_le (show 0 ≤ n by omega)
  obtain ⟨i, rfl⟩ := Int.eq_ofNat_of_zero_le (show 0 ≤ i by omega)
  repeat (first | (refine ⟨fun h => ?_, fun h => ?_⟩; rotate_left 1; (focus (exfalso; (first | (with_reducible (cases h; done)) | (revert h; simp; done) | (revert h; simp; omega) | (revert h; simp [*]; done)))); clear h) | (refine ⟨fun h => ?_, fun h => ?_⟩; (focus (exfalso; (first | (with_reducible (cases h; done)) | (revert h; simp; done) | (revert h; simp; omega) | (revert h; simp [*]; done)))); clear h))
  refine ⟨[], _, pathA_ok 74 (.pointer (some ⟨g, 0, .none⟩)) (fun s m => rootOf ((l.drop s).take m)) l.length (by have := hl.1; omega) n _ 0 i 20
    (fun R' h s m j h1 h2 h3 => part_ok g l hl hl6 m R' (hG.mono fun a v hv => h a v (.inl hv)) (hT.mono fun a v hv => h a v (.inl hv)) s j h1 h2 h3) (by omega) (by omega) (by show n ≤ 1048576; omega) (Nat.dvd_zero _), ?_⟩
  rintro _ _ ⟨A, k, cap, xs, rfl, rfl, hkl, hxs, hg⟩
  rw [pathG_root l n 0 i (by omega), List.drop_zero] at hkl hxs
  exact ⟨_, Ent.refl _, A, k, cap, xs, rfl, hg, .inr ⟨by omega, by omega, by omega, by omega, rfl, hkl, hxs⟩⟩

end Go.Proofs.YtgbdfpfiolbhlaaDoor
