/-
  Contracts: paths of the reference, Consistent, the law's helpers.
-/
import Derived.Test.YtgbdfpfiolbhlaaDoorMkd
namespace Go.Proofs.YtgbdfpfiolbhlaaDoor
open Go Go.RowKit
set_option linter.unusedVariables false

theorem pathR_le : ∀ (n : Nat) (l : List Str) (i : Nat), l.length = n → (pathR l i).length ≤ n := by
  intro n
  induction n using Nat.strongRecOn with
  | _ n ih =>
  intro l i hl
  by_cases h : n ≤ 1
  · rw [pathR_one (by omega)]; simp
  · have h2 : 2 ≤ l.length := by omega
    have hk := splitN_lt h2
    have hk0 := splitN_pos l.length
    by_cases hi : i < splitN l.length
    · rw [pathR_lo h2 hi, List.length_cons]; have := ih (splitN l.length) (by omega) (l.take (splitN l.length)) i (by rw [List.length_take]; omega); omega
    · rw [pathR_hi h2 hi, List.length_cons]; have := ih (l.length - splitN l.length) (by omega) (l.drop (splitN l.length)) (i - splitN l.length) (by rw [List.length_drop]); omega

set_option maxRecDepth 100000 in
set_option maxHeartbeats 1000000 in
theorem refpath_ok : ∀ (n : Nat) (R : Rd) (l : List Str) (i : Nat) (v0 : Value), l.length = n → i < n → Small l → Ss R v0 l →
    Fn Tryd.prog 62 [v0, .int .i64 i] [] R (fun v h => OwnT v (pathOf l i) h) := by
  have hML := maxLen_eq
  intro n
  induction n using Nat.strongRecOn with
  | _ n ih =>
  intro R l i v0 hn hi hsm hs
  obtain ⟨A, cap, rfl, hc, hsr⟩ := hs
  have hs : Ss R (.slice A l.length cap) l := ⟨A, cap, rfl, hc, hsr⟩
  have hlen := hsm.1
  refine fn_of_vc mixed tabOk Tryd.func62 rfl (by kernel_rfl) (Nat.le_of_ble_eq_true rfl) ?_
  refine ⟨fun hb => ?_, fun hb => ?_⟩
  · replace hb := of_decide_eq_true hb
    have h1 : l.length = 1 := by omega
    refine ⟨rfl, fun g => ?_⟩
    refine ⟨_, Ent.refl _, some ⟨g, 0, .none⟩, 0, 0, [], rfl, rfl, ?_, ?_, .inl rfl⟩
    · rw [pathOf, pathR_one (by omega)]; rfl
    · rw [pathOf, pathR_one (by omega)]; rfl
  replace hb := of_decide_eq_false hb
  have h2 : 2 ≤ l.length := by omega
  clear hb
  have hk := splitN_lt h2
  have hk0 := splitN_pos l.length
  refine ⟨[], _, Split_ok _ l.length h2 (by omega), ?_⟩
  rintro _ _ ⟨rfl, rfl⟩
  refine ⟨fun hb => ?_, fun hb => ?_⟩
  · replace hb := of_decide_eq_true hb
    have hik : i < splitN l.length := by omega
    clear hb
    refine ⟨[], (.q 0 (.q 1 (.q 2 (.q 3 (.q 5 (.q 6 (.q 7 (.one 4 (.one 8 (.one 9 (.one 10 (.q 11 .nil)))))))))))), by kernel_rfl, ?_⟩
    refine ⟨0, splitN l.length, rfl, rfl, by omega, by omega, ?_⟩
    refine ⟨splitN l.length, l.length, rfl, rfl, by omega, by omega, ?_⟩
    refine ⟨[], _, ih (splitN l.length) (by omega) _ (l.take (splitN l.length)) i _ (by rw [List.length_take]; omega) hik (hsm.take _) (((hs.take (by omega)).rh _).rh _), ?_⟩
    rintro _ _ ⟨A, k, cap, xs, rfl, rfl, hkl, hxs, hg⟩
    have hpl := pathR_le (splitN l.length) (l.take (splitN l.length)) i (by rw [List.length_take]; omega)
    rw [pathOf, List.length_reverse] at hkl
    refine ⟨[], _, refRoot_ok _ _ (l.drop (splitN l.length)) _ rfl (hsm.drop _) (((hs.drop (by omega)).rh _).rh _), ?_⟩
    rintro _ _ ⟨rfl, rfl⟩
    refine ⟨rfl, fun g => ?_⟩
    refine ⟨[.string ⟨⟨rootOf (l.drop (splitN l.length))⟩⟩], rfl, rdRow 1 rfl, rfl, by show (_ + _) * 16 ≤ _; omega, by omega, .inr ⟨0, rfl, rfl, rfl, rfl, rfl, rfl, fun A' cap' hg' => ?_⟩⟩
    refine ⟨_, Ent.drop [_] [_], A', _, cap', _, rfl, rfl, ?_, ?_, hg'⟩
    · rw [pathOf, pathR_lo h2 hik, List.length_reverse, List.length_cons]; omega
    · rw [pathOf, pathR_lo h2 hik, List.reverse_cons, ← SV_snoc, hxs]; rfl
  · replace hb := of_decide_eq_false hb
    have hik : ¬ i < splitN l.length := by omega
    clear hb
    refine ⟨[], (.q 0 (.q 1 (.q 2 (.q 3 (.q 4 (.q 5 (.q 7 (.q 8 (.q 9 (.one 6 (.one 10 (.one 11 (.one 12 (.q 13 .nil)))))))))))))), by kernel_rfl, ?_⟩
    refine ⟨splitN l.length, l.length, rfl, rfl, by omega, by omega, ?_⟩
    (intro z hz; obtain rfl : z = ((i - splitN l.length : Nat) : Int) := (by first | (rw [IntKind.wrap_i64] at hz; omega) | (rw [IntKind.wrap_u64] at hz; omega) | omega); clear hz)
    refine ⟨0, splitN l.length, rfl, rfl, by omega, by omega, ?_⟩
    refine ⟨[], _, ih (l.length - splitN l.length) (by omega) _ (l.drop (splitN l.length)) (i - splitN l.length) _ (by rw [List.length_drop]) (by omega) (hsm.drop _) (((hs.drop (by omega)).rh _).rh _), ?_⟩
    rintro _ _ ⟨A, k, cap, xs, rfl, rfl, hkl, hxs, hg⟩
    have hpl := pathR_le (l.length - splitN l.length) (l.drop (splitN l.length)) (i - splitN l.length) (by rw [List.length_drop])
    rw [pathOf, List.length_reverse] at hkl
    refine ⟨[], _, refRoot_ok _ _ (l.take (splitN l.length)) _ rfl (hsm.take _) (((hs.take (by omega)).rh _).rh _), ?_⟩
    rintro _ _ ⟨rfl, rfl⟩
    refine ⟨rfl, fun g => ?_⟩
    refine ⟨[.string ⟨⟨rootOf (l.take (splitN l.length))⟩⟩], rfl, rdRow 1 rfl, rfl, by show (_ + _) * 16 ≤ _; omega, by omega, .inr ⟨0, rfl, rfl, rfl, rfl, rfl, rfl, fun A' cap' hg' => ?_⟩⟩
    refine ⟨_, Ent.drop [_] [_], A', _, cap', _, rfl, rfl, ?_, ?_, hg'⟩
    · rw [pathOf, pathR_hi h2 hik, List.length_reverse, List.length_cons]; omega
    · rw [pathOf, pathR_hi h2 hik, List.reverse_cons, ← SV_snoc, hxs]; rfl

/-- What Path answers: a path, or an error. -/
def PathPost (l : List Str) (i : Int) (v : Value) (h : Hp) : Prop :=
  ∃ A k cap xs, h = [.row A k cap 9 1 xs (0, 0)] ∧ grow k A ∧
    ((¬ (0 ≤ i ∧ i < l.length) ∧ v = .tuple ⟨[.slice A k cap, .int .i64 1]⟩ ∧ k = 0 ∧ xs = []) ∨ (0 ≤ i ∧ i < l.length ∧ v = .tuple ⟨[.slice A k cap, .int .i64 0]⟩ ∧ k = (pathOf l i.toNat).length ∧ xs = SV (pathOf l i.toNat)))

set_option maxRecDepth 100000 in
theorem refPath_ok (R : Rd) (l : List Str) (i : Int) (v0 : Value) (hsm : Small l) (hs : Ss R v0 l) :
    Fn Tryd.prog 25 [v0, .int .i64 i] [] R (fun v h => PathPost l i v h) := by
  have hs' := hs
  obtain ⟨A, cap, rfl, hc, hsr⟩ := hs
  refine fn_of_vc mixed tabOk Tryd.func25 rfl (by kernel_rfl) (Nat.le_of_ble_eq_true rfl) ?_
  by_cases c1 : i < 0
  · repeat (first | (refine ⟨fun h => ?_, fun h => ?_⟩; rotate_left 1; (focus (exfalso; (first | (with_reducible (cases h; done)) | (revert h; simp; done) | (revert h; simp; omega) | (revert h; simp [*]; done)))); clear h) | (refine ⟨fun h => ?_, fun h => ?_⟩; (focus (exfalso; (first | (with_reducible (cases h; done)) | (revert h; simp; done) | (revert h; simp; omega) | (revert h; simp [*]; done)))); clear h))
    exact ⟨_, Ent.nilrow [] 9 1, .none, 0, 0, [], rfl, .inl rfl, .inl ⟨by omega, rfl, rfl, rfl⟩⟩
  by_cases c2 : (l.length : Int) ≤ i
  · repeat (first | (refine ⟨fun h => ?_, fun h => ?_⟩; rotate_left 1; (focus (exfalso; (first | (with_reducible (cases h; done)) | (revert h; simp; done) | (revert h; simp; omega) | (revert h; simp [*]; done)))); clear h) | (refine ⟨fun h => ?_, fun h => ?_⟩; (focus (exfalso; (first | (with_reducible (cases h; done)) | (revert h; simp; done) | (revert h; simp; omega) | (revert h; simp [*]; done)))); clear h))
    exact ⟨_, Ent.nilrow [] 9 1, .none, 0, 0, [], rfl, .inl rfl, .inl ⟨by omega, rfl, rfl, rfl⟩⟩
  repeat (first | (refine ⟨fun h => ?_, fun h => ?_⟩; rotate_left 1; (focus (exfalso; (first | (with_reducible (cases h; done)) | (revert h; simp; done) | (revert h; simp; omega) | (revert h; simp [*]; done)))); clear h) | (refine ⟨fun h => ?_, fun h => ?_⟩; (focus (exfalso; (first | (with_reducible (cases h; done)) | (revert h; simp; done) | (revert h; simp; omega) | (revert h; simp [*]; done)))); clear h))
  obtain ⟨i, rfl⟩ := Int.eq_ofNat_of_zero_le (show 0 ≤ i by omega)
  refine ⟨[], _, refpath_ok _ _ l i _ rfl (by omega) hsm (hs'.rh _), ?_⟩
  rintro _ _ ⟨A, k, cap, xs, rfl, rfl, hkl, hxs, hg⟩
  exact ⟨_, Ent.refl _, A, k, cap, xs, rfl, hg, .inr ⟨by omega, by omega, rfl, hkl, hxs⟩⟩

theorem Path1_ok (R : Rd) (hG : ShaG R) (l : List Str) (A : Option Addr) (cap g : Nat) (hsm : Small l) (hs : Ss R (.slice A l.length cap) l) (hg : R ⟨g, 0, .none⟩ (.slice A l.length cap)) (s m : Nat) (hle : s + m ≤ l.length) :
    Fn Tryd.prog 60 [.int .i64 s, .int .i64 m, .pointer (some ⟨g, 0, .none⟩)] [] R (fun v h => v = .string ⟨⟨rootOf ((l.drop s).take m)⟩⟩ ∧ h = []) := by
  have hlen := hsm.1
  obtain ⟨A', cap', e, hc, hsr⟩ := hs
  cases e
  refine fn_of_vc mixed tabOk Tryd.func60 rfl (by kernel_rfl) (Nat.le_of_ble_eq_true rfl) ?_
  refine ⟨_, .inl hg, ?_⟩
  (intro z hz; obtain rfl : z = ((s + m : Nat) : Int) := (by first | (rw [IntKind.wrap_i64] at hz; omega) | (rw [IntKind.wrap_u64] at hz; omega) | omega); clear hz)
  refine ⟨s, s + m, rfl, rfl, by omega, by omega, ?_⟩
  have h1 := hsr.sub (l := s) (h := s + m) (by omega) hle hc
  have e1 : s + m - s = m := by omega
  rw [e1] at h1 ⊢
  have hl : ((l.drop s).take m).length = m := by rw [List.length_take, List.length_drop]; omega
  refine ⟨[], _, Root_ok _ (hG.rh _) _ ((l.drop s).take m) _ rfl ((hsm.drop _).take _) ⟨_, _, by rw [hl], by omega, h1.rh _⟩, ?_⟩
  rintro _ _ ⟨rfl, rfl⟩
  exact ⟨_, Ent.refl _, rfl, rfl⟩

set_option maxRecDepth 100000 in
theorem Path_ok (R : Rd) (hG : ShaG R) (l : List Str) (i : Int) (v0 : Value) (hsm : Small l) (hs : Ss R v0 l) :
    Fn Tryd.prog 24 [v0, .int .i64 i] [] R (fun v h => PathPost l i v h) := by
  have hs' := hs
  have hlen := hsm.1
  obtain ⟨A, cap, rfl, hc, hsr⟩ := hs
  refine fn_of_vc mixed tabOk Tryd.func24 rfl (by kernel_rfl) (Nat.le_of_ble_eq_true rfl) ?_
  intro g
  by_cases c1 : i < 0
  · repeat (first | (refine ⟨fun h => ?_, fun h => ?_⟩; rotate_left 1; (focus (exfalso; (first | (with_reducible (cases h; done)) | (revert h; simp; done) | (revert h; simp; omega) | (revert h; simp [*]; done)))); clear h) | (refine ⟨fun h => ?_, fun h => ?_⟩; (focus (exfalso; (first | (with_reducible (cases h; done)) | (revert h; simp; done) | (revert h; simp; omega) | (revert h; simp [*]; done)))); clear h))
    exact ⟨_, (Ent.nilrow _ 9 1).trans (Ent.dropr [_] [_]), .none, 0, 0, [], rfl, .inl rfl, .inl ⟨by omega, rfl, rfl, rfl⟩⟩
  by_cases c2 : (l.length : Int) ≤ i
  · repeat (first | (refine ⟨fun h => ?_, fun h => ?_⟩; rotate_left 1; (focus (exfalso; (first | (with_reducible (cases h; done)) | (revert h; simp; done) | (revert h; simp; omega) | (revert h; simp [*]; done)))); clear h) | (refine ⟨fun h => ?_, fun h => ?_⟩; (focus (exfalso; (first | (with_reducible (cases h; done)) | (revert h; simp; done) | (revert h; simp; omega) | (revert h; simp [*]; done)))); clear h))
    refine ⟨_, ld 0 rfl rfl, ?_⟩
    repeat (first | (refine ⟨fun h => ?_, fun h => ?_⟩; rotate_left 1; (focus (exfalso; (first | (with_reducible (cases h; done)) | (revert h; simp; done) | (revert h; simp; omega) | (revert h; simp [*]; done)))); clear h) | (refine ⟨fun h => ?_, fun h => ?_⟩; (focus (exfalso; (first | (with_reducible (cases h; done)) | (revert h; simp; done) | (revert h; simp; omega) | (revert h; simp [*]; done)))); clear h))
    exact ⟨_, (Ent.nilrow _ 9 1).trans (Ent.dropr [_] [_]), .none, 0, 0, [], rfl, .inl rfl, .inl ⟨by omega, rfl, rfl, rfl⟩⟩
  repeat (first | (refine ⟨fun h => ?_, fun h => ?_⟩; rotate_left 1; (focus (exfalso; (first | (with_reducible (cases h; done)) | (revert h; simp; done) | (revert h; simp; omega) | (revert h; simp [*]; done)))); clear h) | (refine ⟨fun h => ?_, fun h => ?_⟩; (focus (exfalso; (first | (with_reducible (cases h; done)) | (revert h; simp; done) | (revert h; simp; omega) | (revert h; simp [*]; done)))); clear h))
  refine ⟨_, ld 0 rfl rfl, ?_⟩
  repeat (first | (refine ⟨fun h => ?_, fun h => ?_⟩; rotate_left 1; (focus (exfalso; (first | (with_reducible (cases h; done)) | (revert h; simp; done) | (revert h; simp; omega) | (revert h; simp [*]; done)))); clear h) | (refine ⟨fun h => ?_, fun h => ?_⟩; (focus (exfalso; (first | (with_reducible (cases h; done)) | (revert h; simp; done) | (revert h; simp; omega) | (revert h; simp [*]; done)))); clear h))
  refine ⟨_, ld 0 rfl rfl, ?_⟩
  obtain ⟨i, rfl⟩ := Int.eq_ofNat_of_zero_le (show 0 ≤ i by omega)
  refine ⟨[], _, pathC_ok 60 (.pointer (some ⟨g, 0, .none⟩)) (fun s m => rootOf ((l.drop s).take m)) l.length (by omega) l.length _ 0 i (fun R' hR s m hle => Path1_ok R' ((hG.rh _).mono hR) l A cap g hsm ((hs'.rh _).mono hR) (hR _ _ (ld 0 rfl rfl)) s m hle) (by omega) (by omega), ?_⟩
  rintro _ _ ⟨A, k, cap, xs, rfl, rfl, hkl, hxs, hg⟩
  have e : pathG (fun s m => rootOf ((l.drop s).take m)) 0 l.length i = pathR l i := by
    rw [pathG_root l l.length 0 i (by omega), List.drop_zero, List.take_length]
  rw [e] at hkl hxs
  exact ⟨_, Ent.dropr [_] [_], A, k, cap, xs, rfl, hg, .inr ⟨by omega, by omega, rfl, hkl, hxs⟩⟩

theorem bothR_len {old : Str} (ho : old.length ≤ 1000000) : ∀ (rp : List Str) (m n : Nat) (b : Bool), (∀ s ∈ rp, s.length ≤ 1000000) → (bothR old rp m n b).1.length ≤ 1000000 ∧ (bothR old rp m n b).2.1.length ≤ 1000000
  | [], m, n, b, _ => by
    unfold bothR
    split
    · split
      · exact ⟨ho, ho⟩
      · simp
    · simp
  | last :: rest, m, n, b, h => by
    have hl := h last (by simp)
    have ih := fun m n b => bothR_len ho rest m n b (fun s hs => h s (by simp [hs]))
    have hn : ∀ a b, (nodeOf a b).length ≤ 1000000 := fun a b => by rw [nodeOf_length]; omega
    unfold bothR
    split
    · split
      · exact ⟨ho, ho⟩
      · split
        · exact ⟨hl, hl⟩
        · simp
    · split
      · exact ⟨(ih _ _ _).1, hn _ _⟩
      · exact ⟨hn _ _, hn _ _⟩
theorem Small.revmem {l : List Str} (h : Small l.reverse) : ∀ s ∈ l, s.length ≤ 1000000 := fun s hs => h.2 s (by simpa using hs)

set_option maxRecDepth 100000 in
set_option maxHeartbeats 2000000 in
theorem recompute_ok (old : Str) (ho : old.length ≤ 1000000) : ∀ (rp : List Str) (R : Rd) (hG : ShaG R) (m n : Nat) (b : Bool) (v4 : Value), 1 ≤ m → m ≤ n → n ≤ 9223372036854775807 → Small rp.reverse → Ss R v4 rp.reverse →
    Fn Tryd.prog 68 [.int .i64 m, .int .i64 n, .bool b, .string ⟨⟨old⟩⟩, v4] [] R (fun v h => v = .tuple ⟨[.string ⟨⟨(bothR old rp m n b).1⟩⟩, .string ⟨⟨(bothR old rp m n b).2.1⟩⟩, .bool (bothR old rp m n b).2.2]⟩ ∧ h = []) := by
  intro rp
  induction rp with
  | nil =>
    intro R hG m n b v4 hm hmn hn hsm hs
    obtain ⟨A, cap, rfl, hc, hsr⟩ := hs
    refine fn_of_vc mixed tabOk Tryd.func68 rfl (by kernel_rfl) (Nat.le_of_ble_eq_true rfl) ?_
    refine ⟨fun hb => ?_, fun hb => ?_⟩
    · replace hb := of_decide_eq_true hb
      obtain rfl : m = n := by omega
      cases b
      · (first | (refine ⟨fun h => ?_, fun h => ?_⟩; rotate_left 1; (focus (exfalso; (first | (with_reducible (cases h; done)) | (revert h; simp; done) | (revert h; simp; omega) | (revert h; simp [*]; done)))); clear h) | (refine ⟨fun h => ?_, fun h => ?_⟩; (focus (exfalso; (first | (with_reducible (cases h; done)) | (revert h; simp; done) | (revert h; simp; omega) | (revert h; simp [*]; done)))); clear h))
        (first | (refine ⟨fun h => ?_, fun h => ?_⟩; rotate_left 1; (focus (exfalso; (first | (with_reducible (cases h; done)) | (revert h; simp; done) | (revert h; simp; omega) | (revert h; simp [*]; done)))); clear h) | (refine ⟨fun h => ?_, fun h => ?_⟩; (focus (exfalso; (first | (with_reducible (cases h; done)) | (revert h; simp; done) | (revert h; simp; omega) | (revert h; simp [*]; done)))); clear h))
        refine ⟨_, Ent.refl _, ?_, rfl⟩
        simp only [bothR, if_pos]; rfl
      · (first | (refine ⟨fun h => ?_, fun h => ?_⟩; rotate_left 1; (focus (exfalso; (first | (with_reducible (cases h; done)) | (revert h; simp; done) | (revert h; simp; omega) | (revert h; simp [*]; done)))); clear h) | (refine ⟨fun h => ?_, fun h => ?_⟩; (focus (exfalso; (first | (with_reducible (cases h; done)) | (revert h; simp; done) | (revert h; simp; omega) | (revert h; simp [*]; done)))); clear h))
        refine ⟨_, Ent.refl _, ?_, rfl⟩
        simp only [bothR, if_pos]; rfl
    · replace hb := of_decide_eq_false hb
      have hne : m ≠ n := by omega
      clear hb
      refine ⟨fun _ => ?_, fun h => (by cases h)⟩
      refine ⟨_, Ent.refl _, ?_, rfl⟩
      simp only [bothR, if_neg hne]; rfl
  | cons last rest ih =>
    intro R hG m n b v4 hm hmn hn hsm hs
    obtain ⟨A, cap, rfl, hc, hsr⟩ := hs
    have hs : Ss R (.slice A (last :: rest).reverse.length cap) (last :: rest).reverse := ⟨A, cap, rfl, hc, hsr⟩
    have hlr : (last :: rest).reverse.length = rest.length + 1 := by rw [List.length_reverse, List.length_cons]
    have hbig := hsm.1
    refine fn_of_vc mixed tabOk Tryd.func68 rfl (by kernel_rfl) (Nat.le_of_ble_eq_true rfl) ?_
    refine ⟨fun hb => ?_, fun hb => ?_⟩
    · replace hb := of_decide_eq_true hb
      obtain rfl : m = n := by omega
      cases b
      · (first | (refine ⟨fun h => ?_, fun h => ?_⟩; rotate_left 1; (focus (exfalso; (first | (with_reducible (cases h; done)) | (revert h; simp; done) | (revert h; simp; omega) | (revert h; simp [*]; done)))); clear h) | (refine ⟨fun h => ?_, fun h => ?_⟩; (focus (exfalso; (first | (with_reducible (cases h; done)) | (revert h; simp; done) | (revert h; simp; omega) | (revert h; simp [*]; done)))); clear h))
        cases rest with
        | nil =>
          refine ⟨fun h => (by simp at h), fun _ => ?_⟩
          obtain ⟨a, ha, hr⟩ := hsr.one (i := 0) (by omega)
          refine ⟨[], lexT 0 9, by kernel_rfl, ?_⟩
          refine ⟨by decide, by omega, a, ha, _, .inl hr, ?_⟩
          refine ⟨by decide, by omega, a, ha, _, .inl hr, ?_⟩
          refine ⟨_, Ent.refl _, ?_, rfl⟩
          simp only [bothR, if_pos]; rfl
        | cons r rest =>
          rw [List.length_cons] at hlr
          refine ⟨fun _ => ?_, fun h => (by have := of_decide_eq_true (Bool.not_eq_false' _ ▸ h); omega)⟩
          refine ⟨_, Ent.refl _, ?_, rfl⟩
          simp only [bothR, if_pos]; rfl
      · (first | (refine ⟨fun h => ?_, fun h => ?_⟩; rotate_left 1; (focus (exfalso; (first | (with_reducible (cases h; done)) | (revert h; simp; done) | (revert h; simp; omega) | (revert h; simp [*]; done)))); clear h) | (refine ⟨fun h => ?_, fun h => ?_⟩; (focus (exfalso; (first | (with_reducible (cases h; done)) | (revert h; simp; done) | (revert h; simp; omega) | (revert h; simp [*]; done)))); clear h))
        refine ⟨_, Ent.refl _, ?_, rfl⟩
        simp only [bothR, if_pos]
        show Value.tuple ⟨[_, _, .bool (decide _)]⟩ = _
        rw [decide_eq_false (by omega)]
    · replace hb := of_decide_eq_false hb
      have hne : m ≠ n := by omega
      have h2 : 2 ≤ n := by omega
      clear hb
      refine ⟨fun h => (by have := of_decide_eq_true h; omega), fun _ => ?_⟩
      have hk := splitN_lt h2
      have hk0 := splitN_pos n
      obtain ⟨a, ha, hr⟩ := hsr.one (i := rest.length) (by omega)
      rw [rev_get] at hr
      have hbel := hs.take (k := rest.length) (by omega)
      rw [rev_take] at hbel
      have hlast := hsm.last
      have hrest := hsm.rest.revmem
      refine ⟨[], lexT 0 13, by kernel_rfl, ?_⟩
      (intro z hz; obtain rfl : z = ((rest.length : Nat) : Int) := (by first | (rw [IntKind.wrap_i64] at hz; omega) | (rw [IntKind.wrap_u64] at hz; omega) | omega); clear hz)
      refine ⟨0, rest.length, rfl, rfl, by omega, by omega, ?_⟩
      (intro z hz; obtain rfl : z = ((rest.length : Nat) : Int) := (by first | (rw [IntKind.wrap_i64] at hz; omega) | (rw [IntKind.wrap_u64] at hz; omega) | omega); clear hz)
      refine ⟨by omega, by omega, a, ha, _, .inl hr, ?_⟩
      refine ⟨[], _, split_ok _ n h2 hn, ?_⟩
      rintro _ _ ⟨rfl, rfl⟩
      refine ⟨fun hb => ?_, fun hb => ?_⟩
      · replace hb := of_decide_eq_true hb
        have hmk : m ≤ splitN n := by omega
        clear hb
        refine ⟨[], _, ih _ (hG.rh _) m (splitN n) b _ hm hmk (by omega) hsm.rest (hbel.rh _), ?_⟩
        rintro _ _ ⟨rfl, rfl⟩
        have hbl := bothR_len ho rest m (splitN n) b hrest
        refine ⟨[], _, Node_ok _ (hG.rh _) _ _ (by omega) (by omega), ?_⟩
        rintro _ _ ⟨rfl, rfl⟩
        refine ⟨_, Ent.refl _, ?_, rfl⟩
        simp only [bothR, if_neg hne, if_pos hmk]; rfl
      · replace hb := of_decide_eq_false hb
        have hmk : ¬ m ≤ splitN n := by omega
        clear hb
        (intro z hz; obtain rfl : z = ((m - splitN n : Nat) : Int) := (by first | (rw [IntKind.wrap_i64] at hz; omega) | (rw [IntKind.wrap_u64] at hz; omega) | omega); clear hz)
        (intro z hz; obtain rfl : z = ((n - splitN n : Nat) : Int) := (by first | (rw [IntKind.wrap_i64] at hz; omega) | (rw [IntKind.wrap_u64] at hz; omega) | omega); clear hz)
        refine ⟨[], _, ih _ (hG.rh _) (m - splitN n) (n - splitN n) false _ (by omega) (by omega) (by omega) hsm.rest (hbel.rh _), ?_⟩
        rintro _ _ ⟨rfl, rfl⟩
        have hbl := bothR_len ho rest (m - splitN n) (n - splitN n) false hrest
        refine ⟨[], _, Node_ok _ (hG.rh _) _ _ (by omega) (by omega), ?_⟩
        rintro _ _ ⟨rfl, rfl⟩
        refine ⟨[], _, Node_ok _ (hG.rh _) _ _ (by omega) (by omega), ?_⟩
        rintro _ _ ⟨rfl, rfl⟩
        refine ⟨_, Ent.refl _, ?_, rfl⟩
        simp only [bothR, if_neg hne, if_neg hmk]; rfl

set_option maxRecDepth 100000 in
set_option maxHeartbeats 2000000 in
theorem refboth_ok (old : Str) (ho : old.length ≤ 1000000) : ∀ (rp : List Str) (R : Rd) (m n : Nat) (b : Bool) (v4 : Value), 1 ≤ m → m ≤ n → n ≤ 9223372036854775807 → Small rp.reverse → Ss R v4 rp.reverse →
    Fn Tryd.prog 69 [.int .i64 m, .int .i64 n, .bool b, .string ⟨⟨old⟩⟩, v4] [] R (fun v h => v = .tuple ⟨[.string ⟨⟨(bothR old rp m n b).1⟩⟩, .string ⟨⟨(bothR old rp m n b).2.1⟩⟩, .bool (bothR old rp m n b).2.2]⟩ ∧ h = []) := by
  intro rp
  induction rp with
  | nil =>
    intro R m n b v4 hm hmn hn hsm hs
    obtain ⟨A, cap, rfl, hc, hsr⟩ := hs
    refine fn_of_vc mixed tabOk Tryd.func69 rfl (by kernel_rfl) (Nat.le_of_ble_eq_true rfl) ?_
    refine ⟨fun hb => ?_, fun hb => ?_⟩
    · replace hb := of_decide_eq_true hb
      obtain rfl : m = n := by omega
      cases b
      · (first | (refine ⟨fun h => ?_, fun h => ?_⟩; rotate_left 1; (focus (exfalso; (first | (with_reducible (cases h; done)) | (revert h; simp; done) | (revert h; simp; omega) | (revert h; simp [*]; done)))); clear h) | (refine ⟨fun h => ?_, fun h => ?_⟩; (focus (exfalso; (first | (with_reducible (cases h; done)) | (revert h; simp; done) | (revert h; simp; omega) | (revert h; simp [*]; done)))); clear h))
        (first | (refine ⟨fun h => ?_, fun h => ?_⟩; rotate_left 1; (focus (exfalso; (first | (with_reducible (cases h; done)) | (revert h; simp; done) | (revert h; simp; omega) | (revert h; simp [*]; done)))); clear h) | (refine ⟨fun h => ?_, fun h => ?_⟩; (focus (exfalso; (first | (with_reducible (cases h; done)) | (revert h; simp; done) | (revert h; simp; omega) | (revert h; simp [*]; done)))); clear h))
        refine ⟨_, Ent.refl _, ?_, rfl⟩
        simp only [bothR, if_pos]; rfl
      · (first | (refine ⟨fun h => ?_, fun h => ?_⟩; rotate_left 1; (focus (exfalso; (first | (with_reducible (cases h; done)) | (revert h; simp; done) | (revert h; simp; omega) | (revert h; simp [*]; done)))); clear h) | (refine ⟨fun h => ?_, fun h => ?_⟩; (focus (exfalso; (first | (with_reducible (cases h; done)) | (revert h; simp; done) | (revert h; simp; omega) | (revert h; simp [*]; done)))); clear h))
        refine ⟨_, Ent.refl _, ?_, rfl⟩
        simp only [bothR, if_pos]; rfl
    · replace hb := of_decide_eq_false hb
      have hne : m ≠ n := by omega
      clear hb
      refine ⟨fun _ => ?_, fun h => (by cases h)⟩
      refine ⟨_, Ent.refl _, ?_, rfl⟩
      simp only [bothR, if_neg hne]; rfl
  | cons last rest ih =>
    intro R m n b v4 hm hmn hn hsm hs
    obtain ⟨A, cap, rfl, hc, hsr⟩ := hs
    have hs : Ss R (.slice A (last :: rest).reverse.length cap) (last :: rest).reverse := ⟨A, cap, rfl, hc, hsr⟩
    have hlr : (last :: rest).reverse.length = rest.length + 1 := by rw [List.length_reverse, List.length_cons]
    have hbig := hsm.1
    refine fn_of_vc mixed tabOk Tryd.func69 rfl (by kernel_rfl) (Nat.le_of_ble_eq_true rfl) ?_
    refine ⟨fun hb => ?_, fun hb => ?_⟩
    · replace hb := of_decide_eq_true hb
      obtain rfl : m = n := by omega
      cases b
      · (first | (refine ⟨fun h => ?_, fun h => ?_⟩; rotate_left 1; (focus (exfalso; (first | (with_reducible (cases h; done)) | (revert h; simp; done) | (revert h; simp; omega) | (revert h; simp [*]; done)))); clear h) | (refine ⟨fun h => ?_, fun h => ?_⟩; (focus (exfalso; (first | (with_reducible (cases h; done)) | (revert h; simp; done) | (revert h; simp; omega) | (revert h; simp [*]; done)))); clear h))
        cases rest with
        | nil =>
          refine ⟨fun h => (by simp at h), fun _ => ?_⟩
          obtain ⟨a, ha, hr⟩ := hsr.one (i := 0) (by omega)
          refine ⟨[], lexT 0 9, by kernel_rfl, ?_⟩
          refine ⟨by decide, by omega, a, ha, _, .inl hr, ?_⟩
          refine ⟨by decide, by omega, a, ha, _, .inl hr, ?_⟩
          refine ⟨_, Ent.refl _, ?_, rfl⟩
          simp only [bothR, if_pos]; rfl
        | cons r rest =>
          rw [List.length_cons] at hlr
          refine ⟨fun _ => ?_, fun h => (by have := of_decide_eq_true (Bool.not_eq_false' _ ▸ h); omega)⟩
          refine ⟨_, Ent.refl _, ?_, rfl⟩
          simp only [bothR, if_pos]; rfl
      · (first | (refine ⟨fun h => ?_, fun h => ?_⟩; rotate_left 1; (focus (exfalso; (first | (with_reducible (cases h; done)) | (revert h; simp; done) | (revert h; simp; omega) | (revert h; simp [*]; done)))); clear h) | (refine ⟨fun h => ?_, fun h => ?_⟩; (focus (exfalso; (first | (with_reducible (cases h; done)) | (revert h; simp; done) | (revert h; simp; omega) | (revert h; simp [*]; done)))); clear h))
        refine ⟨_, Ent.refl _, ?_, rfl⟩
        simp only [bothR, if_pos]
        show Value.tuple ⟨[_, _, .bool (decide _)]⟩ = _
        rw [decide_eq_false (by omega)]
    · replace hb := of_decide_eq_false hb
      have hne : m ≠ n := by omega
      have h2 : 2 ≤ n := by omega
      clear hb
      refine ⟨fun h => (by have := of_decide_eq_true h; omega), fun _ => ?_⟩
      have hk := splitN_lt h2
      have hk0 := splitN_pos n
      obtain ⟨a, ha, hr⟩ := hsr.one (i := rest.length) (by omega)
      rw [rev_get] at hr
      have hbel := hs.take (k := rest.length) (by omega)
      rw [rev_take] at hbel
      have hlast := hsm.last
      have hrest := hsm.rest.revmem
      refine ⟨[], lexT 0 13, by kernel_rfl, ?_⟩
      (intro z hz; obtain rfl : z = ((rest.length : Nat) : Int) := (by first | (rw [IntKind.wrap_i64] at hz; omega) | (rw [IntKind.wrap_u64] at hz; omega) | omega); clear hz)
      refine ⟨by omega, by omega, a, ha, _, .inl hr, ?_⟩
      (intro z hz; obtain rfl : z = ((rest.length : Nat) : Int) := (by first | (rw [IntKind.wrap_i64] at hz; omega) | (rw [IntKind.wrap_u64] at hz; omega) | omega); clear hz)
      refine ⟨0, rest.length, rfl, rfl, by omega, by omega, ?_⟩
      refine ⟨[], _, Split_ok _ n h2 hn, ?_⟩
      rintro _ _ ⟨rfl, rfl⟩
      refine ⟨fun hb => ?_, fun hb => ?_⟩
      · replace hb := of_decide_eq_true hb
        have hmk : m ≤ splitN n := by omega
        clear hb
        refine ⟨[], _, ih _ m (splitN n) b _ hm hmk (by omega) hsm.rest (hbel.rh _), ?_⟩
        rintro _ _ ⟨rfl, rfl⟩
        have hbl := bothR_len ho rest m (splitN n) b hrest
        refine ⟨[], _, refNode_ok _ _ _ (by omega) (by omega), ?_⟩
        rintro _ _ ⟨rfl, rfl⟩
        refine ⟨_, Ent.refl _, ?_, rfl⟩
        simp only [bothR, if_neg hne, if_pos hmk]; rfl
      · replace hb := of_decide_eq_false hb
        have hmk : ¬ m ≤ splitN n := by omega
        clear hb
        (intro z hz; obtain rfl : z = ((m - splitN n : Nat) : Int) := (by first | (rw [IntKind.wrap_i64] at hz; omega) | (rw [IntKind.wrap_u64] at hz; omega) | omega); clear hz)
        (intro z hz; obtain rfl : z = ((n - splitN n : Nat) : Int) := (by first | (rw [IntKind.wrap_i64] at hz; omega) | (rw [IntKind.wrap_u64] at hz; omega) | omega); clear hz)
        refine ⟨[], _, ih _ (m - splitN n) (n - splitN n) false _ (by omega) (by omega) (by omega) hsm.rest (hbel.rh _), ?_⟩
        rintro _ _ ⟨rfl, rfl⟩
        have hbl := bothR_len ho rest (m - splitN n) (n - splitN n) false hrest
        refine ⟨[], _, refNode_ok _ _ _ (by omega) (by omega), ?_⟩
        rintro _ _ ⟨rfl, rfl⟩
        refine ⟨[], _, refNode_ok _ _ _ (by omega) (by omega), ?_⟩
        rintro _ _ ⟨rfl, rfl⟩
        refine ⟨_, Ent.refl _, ?_, rfl⟩
        simp only [bothR, if_neg hne, if_neg hmk]; rfl

end Go.Proofs.YtgbdfpfiolbhlaaDoor
