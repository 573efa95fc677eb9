/-
  The law WireDistinct: encodings of lists of the same kinds are equal only if the values are; the walk.
-/
import Derived.Test.YtknilabilihlnaaWrk
namespace Go.Proofs.Ytknilabilihlnaa
open Go Go.RowKit

/-! ### plain law -/

/-- Two values of one kind are equal. -/
def eqv (p q : Item) : Bool :=
  if p.k = 1 then decide (p.u = q.u) else if p.k = 2 ∨ p.k = 7 then decide (p.n = q.n) else if p.k = 3 then decide (p.b = q.b) else decide (p.s = q.s)

theorem zig_inj {a b : Int} (h : (zig a).toNat = (zig b).toNat) : a = b := by
  rw [← zag_zig a, h, zag_zig]

theorem enc1_inj {p q : Item} (hp : p.Ok) (hq : q.Ok) (hk : p.k = q.k) (hkn : knownB p.k = true) {x y r s : List UInt8} (hx : enc1 p = some x) (hy : enc1 q = some y) (h : x ++ r = y ++ s) : eqv p q = true ∧ r = s := by
  have hpk : 1 ≤ p.k ∧ p.k ≤ 7 := by simpa [knownB] using hkn
  have hzp := zig_le hp.n1 hp.n2
  have hzq := zig_le hq.n1 hq.n2
  have hpn := hp.n2
  have hqn := hq.n2
  have hps := hp.s
  have hqs := hq.s
  unfold enc1 at hx hy
  rw [← hk] at hy
  unfold eqv
  by_cases h1 : p.k = 1
  · rw [if_pos h1] at hx hy ⊢
    cases hx; cases hy
    obtain ⟨e, h⟩ := num_prefix hp.u hq.u h
    exact ⟨decide_eq_true e, h⟩
  rw [if_neg h1] at hx hy ⊢
  by_cases h2 : p.k = 2
  · rw [if_pos h2] at hx hy
    rw [if_pos (.inl h2)]
    cases hx; cases hy
    obtain ⟨e, h⟩ := num_prefix (by omega) (by omega) h
    exact ⟨decide_eq_true (zig_inj e), h⟩
  rw [if_neg h2] at hx hy
  by_cases h3 : p.k = 3
  · rw [if_pos h3] at hx hy
    rw [if_neg (by omega), if_pos h3]
    cases hx; cases hy
    simp only [List.cons_append, List.nil_append, List.cons.injEq] at h
    refine ⟨decide_eq_true ?_, h.2⟩
    have := h.1
    cases hb : p.b <;> cases hc : q.b <;> simp [hb, hc] at this <;> rfl
  rw [if_neg h3] at hx hy
  by_cases h4 : p.k = 4 ∨ p.k = 5
  · rw [if_pos h4] at hx hy
    rw [if_neg (by omega), if_neg h3]
    cases hx; cases hy
    rw [List.append_assoc, List.append_assoc] at h
    obtain ⟨e, h⟩ := num_prefix (by omega) (by omega) h
    obtain ⟨h, h'⟩ := List.append_inj h e
    exact ⟨decide_eq_true h, h'⟩
  rw [if_neg h4] at hx hy
  by_cases h6 : p.k = 6
  · rw [if_pos h6] at hx hy
    rw [if_neg (by omega), if_neg h3]
    split at hx
    · split at hy
      · cases hx; cases hy
        obtain ⟨h, h'⟩ := List.append_inj h (by omega)
        exact ⟨decide_eq_true h, h'⟩
      · cases hy
    · cases hx
  rw [if_neg h6] at hx hy
  have h7 : p.k = 7 := by omega
  rw [if_pos h7] at hx hy
  rw [if_pos (.inr h7)]
  split at hx
  · cases hx
  · split at hy
    · cases hy
    · cases hx; cases hy
      obtain ⟨e, h⟩ := num_prefix (by omega) (by omega) h
      exact ⟨decide_eq_true (by omega), h⟩

theorem enc1_eqv {p q : Item} (hk : p.k = q.k) (hkn : knownB p.k = true) (h : eqv p q = true) : enc1 p = enc1 q := by
  have hpk : 1 ≤ p.k ∧ p.k ≤ 7 := by simpa [knownB] using hkn
  unfold eqv at h
  unfold enc1
  rw [← hk]
  split at h
  · rename_i h1; simp only [if_pos h1]; rw [of_decide_eq_true h]
  rename_i h1
  split at h
  · rw [of_decide_eq_true h]
    rcases ‹p.k = 2 ∨ p.k = 7› with h2 | h2
    · simp [h2]
    · simp [h2]
  rename_i h2
  split at h
  · rename_i h3; simp only [h3]; rw [of_decide_eq_true h]; simp
  · rename_i h3
    rw [of_decide_eq_true h]
    simp [h1, h3, show ¬ p.k = 2 by omega, show ¬ p.k = 7 by omega]

/-- The encoding of a list, where it has one. -/
def encL : List Item → Option (List UInt8)
  | [] => some []
  | x :: l => match enc1 x, encL l with
    | some y, some z => some (y ++ z)
    | _, _ => none

theorem encS_from : ∀ (l : List Item) (bs : List UInt8), (l.foldl put1 (bs, 0)).2 = 0 → ∃ y, encL l = some y ∧ l.foldl put1 (bs, 0) = (bs ++ y, 0)
  | [], bs, _ => ⟨[], rfl, by simp⟩
  | x :: l, bs, h => by
    rw [List.foldl_cons] at h ⊢
    cases hx : enc1 x with
    | none =>
      rw [put_none hx, if_pos rfl, fold_err l (by simp)] at h
      simp at h
    | some y =>
      rw [put_some hx, if_pos rfl] at h ⊢
      obtain ⟨z, hz, e⟩ := encS_from l (bs ++ y) h
      exact ⟨y ++ z, by rw [encL, hx, hz], by rw [e, List.append_assoc]⟩

theorem encS_of {l : List Item} (h : (encS l).2 = 0) : encL l = some (encS l).1 := by
  obtain ⟨y, hy, e⟩ := encS_from l [] h
  have : encS l = (y, 0) := by rw [encS, e, List.nil_append]
  rw [hy, this]

theorem encL_inj : ∀ {a b : List Item}, (∀ x ∈ a, x.Ok) → (∀ x ∈ b, x.Ok) → a.length = b.length → (∀ (i : Nat) (x y : Item), a[i]? = some x → b[i]? = some y → x.k = y.k ∧ knownB x.k = true) → ∀ {u v : List UInt8}, encL a = some u → encL b = some v →
    (u = v ↔ ∀ (i : Nat) (x y : Item), a[i]? = some x → b[i]? = some y → eqv x y = true)
  | [], [], _, _, _, _, u, v, hu, hv => by
    cases hu; cases hv
    simp
  | x :: a, y :: b, ha, hb, hl, hk, u, v, hu, hv => by
    rw [encL] at hu hv
    split at hu
    · rename_i p q hp hq
      split at hv
      · rename_i p' q' hp' hq'
        cases hu; cases hv
        obtain ⟨k0, kn0⟩ := hk 0 x y rfl rfl
        have ih := encL_inj (fun z hz => ha z (by simp [hz])) (fun z hz => hb z (by simp [hz])) (by simpa using hl) (fun i z w hz hw => hk (i + 1) z w (by simpa using hz) (by simpa using hw)) hq hq'
        constructor
        · intro h
          obtain ⟨e, h⟩ := enc1_inj (ha x (by simp)) (hb y (by simp)) k0 kn0 hp hp' h
          intro i z w hz hw
          cases i with
          | zero => simp at hz hw; subst hz hw; exact e
          | succ i => exact ih.1 h i z w (by simpa using hz) (by simpa using hw)
        · intro h
          have e := enc1_eqv k0 kn0 (h 0 x y rfl rfl)
          rw [hp, hp'] at e
          cases e
          rw [ih.2 fun i z w hz hw => h (i + 1) z w (by simpa using hz) (by simpa using hw)]
      · cases hv
    · cases hu
  | [], _ :: _, _, _, hl, _, _, _, _, _ => by simp at hl
  | _ :: _, [], _, _, hl, _, _, _, _, _ => by simp at hl

/-! ### walk -/

/-- The first i values are of the same known kinds; f: they are equal. -/
def DI (a b : List Item) (i : Nat) (f : Bool) : Prop :=
  i ≤ a.length ∧ (∀ j x y, j < i → a[j]? = some x → b[j]? = some y → x.k = y.k ∧ knownB x.k = true) ∧ (f = true ↔ ∀ j x y, j < i → a[j]? = some x → b[j]? = some y → eqv x y = true)

theorem DI.step {a b : List Item} {i : Nat} {f f' : Bool} (h : DI a b i f) {x y : Item} (hx : a[i]? = some x) (hy : b[i]? = some y) (hk : x.k = y.k) (hkn : knownB x.k = true) (hf : f' = (f && eqv x y)) : DI a b (i + 1) f' := by
  obtain ⟨hi, hks, hfs⟩ := h
  have := (List.getElem?_eq_some_iff.1 hx).1
  refine ⟨by omega, fun j p q hj hp hq => ?_, ?_⟩
  · by_cases hji : j = i
    · subst hji; rw [hx] at hp; rw [hy] at hq; cases hp; cases hq; exact ⟨hk, hkn⟩
    · exact hks j p q (by omega) hp hq
  · rw [hf, Bool.and_eq_true, hfs]
    constructor
    · rintro ⟨h1, h2⟩ j p q hj hp hq
      by_cases hji : j = i
      · subst hji; rw [hx] at hp; rw [hy] at hq; cases hp; cases hq; exact h2
      · exact h1 j p q (by omega) hp hq
    · intro h
      exact ⟨fun j p q hj hp hq => h j p q (by omega) hp hq, h i x y (by omega) hx hy⟩

set_option maxRecDepth 100000 in
set_option maxHeartbeats 16000000 in
theorem WireDistinct_ok (R : Rd) (v w : Value) (a b : List Item) (ha : ∀ x ∈ a, x.Ok) (hob : ∀ x ∈ b, x.Ok) (hla : a.length ≤ 9223372036854775807) (hlb : b.length ≤ 9223372036854775807) (hsa : ItemsR R v a) (hsb : ItemsR R w b) :
    Fn Try.prog 7 [v, w] [] R (fun v _ => v = .bool true) := by
  obtain ⟨A0, cap0, rfl⟩ := hsa.form
  obtain ⟨B0, cap1, rfl⟩ := hsb.form
  refine fn_of_vc mixed tabOk Try.func7 rfl (by kernel_rfl) (Nat.le_of_ble_eq_true rfl) ?_
  refine ⟨[], _, awake_ok _, ?_⟩
  rintro v' h' ⟨rfl, rfl⟩
  repeat (focus (refine ⟨fun h => ?_, fun h => ?_⟩; first | (focus (exfalso; first | (simp at h; done) | exact absurd (of_decide_eq_true h) (by assumption) | exact absurd (by assumption) (of_decide_eq_false h))) | (rotate_left; focus (exfalso; first | (simp at h; done) | exact absurd (of_decide_eq_true h) (by assumption) | exact absurd (by assumption) (of_decide_eq_false h))) | (focus (exfalso; simp at h; omega)) | (rotate_left; focus (exfalso; simp at h; omega)); clear h))
  refine ⟨[], _, small_ok _ _ a hla (hsa.mono fun _ _ => .inl), ?_⟩
  rintro v' h' ⟨rfl, rfl⟩
  cases hsm : smallB a
  · repeat (focus (refine ⟨fun h => ?_, fun h => ?_⟩; first | (focus (exfalso; first | (simp at h; done) | exact absurd (of_decide_eq_true h) (by assumption) | exact absurd (by assumption) (of_decide_eq_false h))) | (rotate_left; focus (exfalso; first | (simp at h; done) | exact absurd (of_decide_eq_true h) (by assumption) | exact absurd (by assumption) (of_decide_eq_false h))) | (focus (exfalso; simp at h; omega)) | (rotate_left; focus (exfalso; simp at h; omega)); clear h))
    exact ⟨_, Ent.nil _, rfl⟩
  repeat (focus (refine ⟨fun h => ?_, fun h => ?_⟩; first | (focus (exfalso; first | (simp at h; done) | exact absurd (of_decide_eq_true h) (by assumption) | exact absurd (by assumption) (of_decide_eq_false h))) | (rotate_left; focus (exfalso; first | (simp at h; done) | exact absurd (of_decide_eq_true h) (by assumption) | exact absurd (by assumption) (of_decide_eq_false h))) | (focus (exfalso; simp at h; omega)) | (rotate_left; focus (exfalso; simp at h; omega)); clear h))
  refine ⟨[], _, small_ok _ _ b hlb (hsb.mono fun _ _ => .inl), ?_⟩
  rintro v' h' ⟨rfl, rfl⟩
  cases hsmb : smallB b
  · repeat (focus (refine ⟨fun h => ?_, fun h => ?_⟩; first | (focus (exfalso; first | (simp at h; done) | exact absurd (of_decide_eq_true h) (by assumption) | exact absurd (by assumption) (of_decide_eq_false h))) | (rotate_left; focus (exfalso; first | (simp at h; done) | exact absurd (of_decide_eq_true h) (by assumption) | exact absurd (by assumption) (of_decide_eq_false h))) | (focus (exfalso; simp at h; omega)) | (rotate_left; focus (exfalso; simp at h; omega)); clear h))
    exact ⟨_, Ent.nil _, rfl⟩
  repeat (focus (refine ⟨fun h => ?_, fun h => ?_⟩; first | (focus (exfalso; first | (simp at h; done) | exact absurd (of_decide_eq_true h) (by assumption) | exact absurd (by assumption) (of_decide_eq_false h))) | (rotate_left; focus (exfalso; first | (simp at h; done) | exact absurd (of_decide_eq_true h) (by assumption) | exact absurd (by assumption) (of_decide_eq_false h))) | (focus (exfalso; simp at h; omega)) | (rotate_left; focus (exfalso; simp at h; omega)); clear h))
  by_cases hll : a.length = b.length
  rotate_left
  · repeat (focus (refine ⟨fun h => ?_, fun h => ?_⟩; first | (focus (exfalso; first | (simp at h; done) | exact absurd (of_decide_eq_true h) (by assumption) | exact absurd (by assumption) (of_decide_eq_false h))) | (rotate_left; focus (exfalso; first | (simp at h; done) | exact absurd (of_decide_eq_true h) (by assumption) | exact absurd (by assumption) (of_decide_eq_false h))) | (focus (exfalso; simp at h; omega)) | (rotate_left; focus (exfalso; simp at h; omega)); clear h))
    exact ⟨_, Ent.nil _, rfl⟩
  repeat (focus (refine ⟨fun h => ?_, fun h => ?_⟩; first | (focus (exfalso; first | (simp at h; done) | exact absurd (of_decide_eq_true h) (by assumption) | exact absurd (by assumption) (of_decide_eq_false h))) | (rotate_left; focus (exfalso; first | (simp at h; done) | exact absurd (of_decide_eq_true h) (by assumption) | exact absurd (by assumption) (of_decide_eq_false h))) | (focus (exfalso; simp at h; omega)) | (rotate_left; focus (exfalso; simp at h; omega)); clear h))
  refine ⟨[4, 5, 6, 28, 29, 30, 31, 32, 33, 34, 35, 36, 37, 38, 39, 40, 41, 42, 43, 44, 45, 46, 47, 48, 49, 50, 51, 52, 53, 54, 55, 56, 57, 58, 59, 60, 61, 62, 63, 64, 65, 66, 67, 68, 69, 70, 71, 72, 73, 74, 75, 76, 77, 78, 79, 80, 81, 82, 83, 84, 85, 86, 87, 88, 89, 90, 91, 92, 93, 94, 95, 96, 97, 98, 99, 100, 101, 102, 103, 104, 105, 106, 107, 108, 109, 110, 111, 112, 113, 114, 115, 116, 117, 118, 119, 120, 121], [5, 6], Nat × Bool, fun ⟨i, f⟩ => DI a b i f, fun ⟨i, f⟩ => [.bool f, .int .i64 i], fun _ => [], fun ⟨i, _⟩ => a.length - i, (0, true), ⟨by omega, fun j x y hj => by omega, by simp⟩, ⟨rfl, rfl, trivial⟩, Ent.nil _, ?_⟩
  rintro ⟨i, f⟩ hI js
  have hI : DI a b i f := hI
  have hil := hI.1
  refine ⟨fun hb => ?_, fun hb => ?_⟩
  · replace hb := of_decide_eq_true hb
    have h1 : i < a.length := by omega
    obtain ⟨c, rfl, hRa⟩ := hsa.at_ (List.getElem?_eq_getElem h1)
    obtain ⟨d, rfl, hRb⟩ := hsb.at_ (List.getElem?_eq_getElem (show i < b.length by omega))
    have hga : a[i]? = some a[i] := List.getElem?_eq_getElem h1
    have hgb : b[i]? = some b[i] := List.getElem?_eq_getElem (by omega)
    generalize a[i] = x at hRa hga
    generalize b[i] = y at hRb hgb
    refine ⟨[], (.q 0 (.q 1 (.q 2 (.q 3 (.q 4 (.q 5 (.q 6 (.q 7 (.q 8 (.q 9 (.q 10 (.q 11 (.q 12 (.q 13 (.q 14 (.q 15 (.q 16 (.one 17 (.q 18 (.q 19 .nil)))))))))))))))))))), by kernel_rfl, ?_⟩
    refine ⟨by omega, by omega, c, rfl, ?_⟩
    refine ⟨_, ro (fld (hRa 0 _ rfl)), ?_⟩
    refine ⟨by omega, by omega, d, rfl, ?_⟩
    refine ⟨_, ro (fld (hRb 0 _ rfl)), ?_⟩
    by_cases hk : x.k = y.k
    rotate_left
    · repeat (focus (refine ⟨fun h => ?_, fun h => ?_⟩; first | (focus (exfalso; first | (simp at h; done) | exact absurd (of_decide_eq_true h) (by assumption) | exact absurd (by assumption) (of_decide_eq_false h))) | (rotate_left; focus (exfalso; first | (simp at h; done) | exact absurd (of_decide_eq_true h) (by assumption) | exact absurd (by assumption) (of_decide_eq_false h))) | (focus (exfalso; simp at h; omega)) | (rotate_left; focus (exfalso; simp at h; omega)); clear h))
      exact ⟨_, Ent.nil _, rfl⟩
    repeat (focus (refine ⟨fun h => ?_, fun h => ?_⟩; first | (focus (exfalso; first | (simp at h; done) | exact absurd (of_decide_eq_true h) (by assumption) | exact absurd (by assumption) (of_decide_eq_false h))) | (rotate_left; focus (exfalso; first | (simp at h; done) | exact absurd (of_decide_eq_true h) (by assumption) | exact absurd (by assumption) (of_decide_eq_false h))) | (focus (exfalso; simp at h; omega)) | (rotate_left; focus (exfalso; simp at h; omega)); clear h))
    refine ⟨by omega, by omega, c, rfl, ?_⟩
    repeat (focus (refine ⟨fun h => ?_, fun h => ?_⟩; first | (focus (exfalso; first | (simp at h; done) | exact absurd (of_decide_eq_true h) (by assumption) | exact absurd (by assumption) (of_decide_eq_false h))) | (rotate_left; focus (exfalso; first | (simp at h; done) | exact absurd (of_decide_eq_true h) (by assumption) | exact absurd (by assumption) (of_decide_eq_false h))) | (focus (exfalso; simp at h; omega)) | (rotate_left; focus (exfalso; simp at h; omega)); clear h))
    refine ⟨_, ro (fld (hRa 0 _ rfl)), ?_⟩
    repeat (focus (refine ⟨fun h => ?_, fun h => ?_⟩; first | (focus (exfalso; first | (simp at h; done) | exact absurd (of_decide_eq_true h) (by assumption) | exact absurd (by assumption) (of_decide_eq_false h))) | (rotate_left; focus (exfalso; first | (simp at h; done) | exact absurd (of_decide_eq_true h) (by assumption) | exact absurd (by assumption) (of_decide_eq_false h))) | (focus (exfalso; simp at h; omega)) | (rotate_left; focus (exfalso; simp at h; omega)); clear h))
    refine ⟨[], _, Known_ok _ x.k, ?_⟩
    rintro v' h' ⟨rfl, rfl⟩
    cases hkn : knownB x.k
    · repeat (focus (refine ⟨fun h => ?_, fun h => ?_⟩; first | (focus (exfalso; first | (simp at h; done) | exact absurd (of_decide_eq_true h) (by assumption) | exact absurd (by assumption) (of_decide_eq_false h))) | (rotate_left; focus (exfalso; first | (simp at h; done) | exact absurd (of_decide_eq_true h) (by assumption) | exact absurd (by assumption) (of_decide_eq_false h))) | (focus (exfalso; simp at h; omega)) | (rotate_left; focus (exfalso; simp at h; omega)); clear h))
      exact ⟨_, Ent.nil _, rfl⟩
    repeat (focus (refine ⟨fun h => ?_, fun h => ?_⟩; first | (focus (exfalso; first | (simp at h; done) | exact absurd (of_decide_eq_true h) (by assumption) | exact absurd (by assumption) (of_decide_eq_false h))) | (rotate_left; focus (exfalso; first | (simp at h; done) | exact absurd (of_decide_eq_true h) (by assumption) | exact absurd (by assumption) (of_decide_eq_false h))) | (focus (exfalso; simp at h; omega)) | (rotate_left; focus (exfalso; simp at h; omega)); clear h))
    refine ⟨by omega, by omega, c, rfl, ?_⟩
    refine ⟨_, ro (fld (hRa 0 _ rfl)), ?_⟩
    by_cases h1' : x.k = 1
    · repeat (focus (refine ⟨fun h => ?_, fun h => ?_⟩; first | (focus (exfalso; first | (simp at h; done) | exact absurd (of_decide_eq_true h) (by assumption) | exact absurd (by assumption) (of_decide_eq_false h))) | (rotate_left; focus (exfalso; first | (simp at h; done) | exact absurd (of_decide_eq_true h) (by assumption) | exact absurd (by assumption) (of_decide_eq_false h))) | (focus (exfalso; simp at h; omega)) | (rotate_left; focus (exfalso; simp at h; omega)); clear h))
      cases f
      · refine ⟨[], lexT 0 15, by kernel_rfl, ?_⟩
        repeat (focus (refine ⟨fun h => ?_, fun h => ?_⟩; first | (focus (exfalso; first | (simp at h; done) | exact absurd (of_decide_eq_true h) (by assumption) | exact absurd (by assumption) (of_decide_eq_false h))) | (rotate_left; focus (exfalso; first | (simp at h; done) | exact absurd (of_decide_eq_true h) (by assumption) | exact absurd (by assumption) (of_decide_eq_false h))) | (focus (exfalso; simp at h; omega)) | (rotate_left; focus (exfalso; simp at h; omega)); clear h))
        (intro z hz; obtain rfl := wr_i64 hz (by omega) (by omega); clear hz)
        exact ⟨rfl, (i + 1, false), hI.step hga hgb hk hkn rfl, by show a.length - (i + 1) < a.length - i; omega, ⟨rfl, rfl, trivial⟩, Ent.refl _, rfl⟩
      · refine ⟨[], lexT 0 15, by kernel_rfl, ?_⟩
        repeat (focus (refine ⟨fun h => ?_, fun h => ?_⟩; first | (focus (exfalso; first | (simp at h; done) | exact absurd (of_decide_eq_true h) (by assumption) | exact absurd (by assumption) (of_decide_eq_false h))) | (rotate_left; focus (exfalso; first | (simp at h; done) | exact absurd (of_decide_eq_true h) (by assumption) | exact absurd (by assumption) (of_decide_eq_false h))) | (focus (exfalso; simp at h; omega)) | (rotate_left; focus (exfalso; simp at h; omega)); clear h))
        refine ⟨by omega, by omega, c, rfl, ?_⟩
        repeat (focus (refine ⟨fun h => ?_, fun h => ?_⟩; first | (focus (exfalso; first | (simp at h; done) | exact absurd (of_decide_eq_true h) (by assumption) | exact absurd (by assumption) (of_decide_eq_false h))) | (rotate_left; focus (exfalso; first | (simp at h; done) | exact absurd (of_decide_eq_true h) (by assumption) | exact absurd (by assumption) (of_decide_eq_false h))) | (focus (exfalso; simp at h; omega)) | (rotate_left; focus (exfalso; simp at h; omega)); clear h))
        refine ⟨_, ro (fld (hRa 1 _ rfl)), ?_⟩
        repeat (focus (refine ⟨fun h => ?_, fun h => ?_⟩; first | (focus (exfalso; first | (simp at h; done) | exact absurd (of_decide_eq_true h) (by assumption) | exact absurd (by assumption) (of_decide_eq_false h))) | (rotate_left; focus (exfalso; first | (simp at h; done) | exact absurd (of_decide_eq_true h) (by assumption) | exact absurd (by assumption) (of_decide_eq_false h))) | (focus (exfalso; simp at h; omega)) | (rotate_left; focus (exfalso; simp at h; omega)); clear h))
        refine ⟨by omega, by omega, d, rfl, ?_⟩
        repeat (focus (refine ⟨fun h => ?_, fun h => ?_⟩; first | (focus (exfalso; first | (simp at h; done) | exact absurd (of_decide_eq_true h) (by assumption) | exact absurd (by assumption) (of_decide_eq_false h))) | (rotate_left; focus (exfalso; first | (simp at h; done) | exact absurd (of_decide_eq_true h) (by assumption) | exact absurd (by assumption) (of_decide_eq_false h))) | (focus (exfalso; simp at h; omega)) | (rotate_left; focus (exfalso; simp at h; omega)); clear h))
        refine ⟨_, ro (fld (hRb 1 _ rfl)), ?_⟩
        repeat (focus (refine ⟨fun h => ?_, fun h => ?_⟩; first | (focus (exfalso; first | (simp at h; done) | exact absurd (of_decide_eq_true h) (by assumption) | exact absurd (by assumption) (of_decide_eq_false h))) | (rotate_left; focus (exfalso; first | (simp at h; done) | exact absurd (of_decide_eq_true h) (by assumption) | exact absurd (by assumption) (of_decide_eq_false h))) | (focus (exfalso; simp at h; omega)) | (rotate_left; focus (exfalso; simp at h; omega)); clear h))
        (intro z hz; obtain rfl := wr_i64 hz (by omega) (by omega); clear hz)
        exact ⟨rfl, (i + 1, _), hI.step hga hgb hk hkn (by rw [Bool.true_and, eqv, if_pos h1']; simp only [decide_eq_decide]; omega), by show a.length - (i + 1) < a.length - i; omega, ⟨rfl, rfl, trivial⟩, Ent.refl _, rfl⟩
    by_cases h2 : x.k = 2
    · repeat (focus (refine ⟨fun h => ?_, fun h => ?_⟩; first | (focus (exfalso; first | (simp at h; done) | exact absurd (of_decide_eq_true h) (by assumption) | exact absurd (by assumption) (of_decide_eq_false h))) | (rotate_left; focus (exfalso; first | (simp at h; done) | exact absurd (of_decide_eq_true h) (by assumption) | exact absurd (by assumption) (of_decide_eq_false h))) | (focus (exfalso; simp at h; omega)) | (rotate_left; focus (exfalso; simp at h; omega)); clear h))
      cases f
      · refine ⟨[], lexT 0 15, by kernel_rfl, ?_⟩
        repeat (focus (refine ⟨fun h => ?_, fun h => ?_⟩; first | (focus (exfalso; first | (simp at h; done) | exact absurd (of_decide_eq_true h) (by assumption) | exact absurd (by assumption) (of_decide_eq_false h))) | (rotate_left; focus (exfalso; first | (simp at h; done) | exact absurd (of_decide_eq_true h) (by assumption) | exact absurd (by assumption) (of_decide_eq_false h))) | (focus (exfalso; simp at h; omega)) | (rotate_left; focus (exfalso; simp at h; omega)); clear h))
        (intro z hz; obtain rfl := wr_i64 hz (by omega) (by omega); clear hz)
        exact ⟨rfl, (i + 1, false), hI.step hga hgb hk hkn rfl, by show a.length - (i + 1) < a.length - i; omega, ⟨rfl, rfl, trivial⟩, Ent.refl _, rfl⟩
      · refine ⟨[], lexT 0 15, by kernel_rfl, ?_⟩
        repeat (focus (refine ⟨fun h => ?_, fun h => ?_⟩; first | (focus (exfalso; first | (simp at h; done) | exact absurd (of_decide_eq_true h) (by assumption) | exact absurd (by assumption) (of_decide_eq_false h))) | (rotate_left; focus (exfalso; first | (simp at h; done) | exact absurd (of_decide_eq_true h) (by assumption) | exact absurd (by assumption) (of_decide_eq_false h))) | (focus (exfalso; simp at h; omega)) | (rotate_left; focus (exfalso; simp at h; omega)); clear h))
        refine ⟨by omega, by omega, c, rfl, ?_⟩
        repeat (focus (refine ⟨fun h => ?_, fun h => ?_⟩; first | (focus (exfalso; first | (simp at h; done) | exact absurd (of_decide_eq_true h) (by assumption) | exact absurd (by assumption) (of_decide_eq_false h))) | (rotate_left; focus (exfalso; first | (simp at h; done) | exact absurd (of_decide_eq_true h) (by assumption) | exact absurd (by assumption) (of_decide_eq_false h))) | (focus (exfalso; simp at h; omega)) | (rotate_left; focus (exfalso; simp at h; omega)); clear h))
        refine ⟨_, ro (fld (hRa 2 _ rfl)), ?_⟩
        repeat (focus (refine ⟨fun h => ?_, fun h => ?_⟩; first | (focus (exfalso; first | (simp at h; done) | exact absurd (of_decide_eq_true h) (by assumption) | exact absurd (by assumption) (of_decide_eq_false h))) | (rotate_left; focus (exfalso; first | (simp at h; done) | exact absurd (of_decide_eq_true h) (by assumption) | exact absurd (by assumption) (of_decide_eq_false h))) | (focus (exfalso; simp at h; omega)) | (rotate_left; focus (exfalso; simp at h; omega)); clear h))
        refine ⟨by omega, by omega, d, rfl, ?_⟩
        repeat (focus (refine ⟨fun h => ?_, fun h => ?_⟩; first | (focus (exfalso; first | (simp at h; done) | exact absurd (of_decide_eq_true h) (by assumption) | exact absurd (by assumption) (of_decide_eq_false h))) | (rotate_left; focus (exfalso; first | (simp at h; done) | exact absurd (of_decide_eq_true h) (by assumption) | exact absurd (by assumption) (of_decide_eq_false h))) | (focus (exfalso; simp at h; omega)) | (rotate_left; focus (exfalso; simp at h; omega)); clear h))
        refine ⟨_, ro (fld (hRb 2 _ rfl)), ?_⟩
        repeat (focus (refine ⟨fun h => ?_, fun h => ?_⟩; first | (focus (exfalso; first | (simp at h; done) | exact absurd (of_decide_eq_true h) (by assumption) | exact absurd (by assumption) (of_decide_eq_false h))) | (rotate_left; focus (exfalso; first | (simp at h; done) | exact absurd (of_decide_eq_true h) (by assumption) | exact absurd (by assumption) (of_decide_eq_false h))) | (focus (exfalso; simp at h; omega)) | (rotate_left; focus (exfalso; simp at h; omega)); clear h))
        (intro z hz; obtain rfl := wr_i64 hz (by omega) (by omega); clear hz)
        exact ⟨rfl, (i + 1, _), hI.step hga hgb hk hkn (by rw [Bool.true_and, eqv, if_neg h1', if_pos (.inl h2)]), by show a.length - (i + 1) < a.length - i; omega, ⟨rfl, rfl, trivial⟩, Ent.refl _, rfl⟩
    by_cases h7 : x.k = 7
    · repeat (focus (refine ⟨fun h => ?_, fun h => ?_⟩; first | (focus (exfalso; first | (simp at h; done) | exact absurd (of_decide_eq_true h) (by assumption) | exact absurd (by assumption) (of_decide_eq_false h))) | (rotate_left; focus (exfalso; first | (simp at h; done) | exact absurd (of_decide_eq_true h) (by assumption) | exact absurd (by assumption) (of_decide_eq_false h))) | (focus (exfalso; simp at h; omega)) | (rotate_left; focus (exfalso; simp at h; omega)); clear h))
      cases f
      · refine ⟨[], lexT 0 15, by kernel_rfl, ?_⟩
        repeat (focus (refine ⟨fun h => ?_, fun h => ?_⟩; first | (focus (exfalso; first | (simp at h; done) | exact absurd (of_decide_eq_true h) (by assumption) | exact absurd (by assumption) (of_decide_eq_false h))) | (rotate_left; focus (exfalso; first | (simp at h; done) | exact absurd (of_decide_eq_true h) (by assumption) | exact absurd (by assumption) (of_decide_eq_false h))) | (focus (exfalso; simp at h; omega)) | (rotate_left; focus (exfalso; simp at h; omega)); clear h))
        (intro z hz; obtain rfl := wr_i64 hz (by omega) (by omega); clear hz)
        exact ⟨rfl, (i + 1, false), hI.step hga hgb hk hkn rfl, by show a.length - (i + 1) < a.length - i; omega, ⟨rfl, rfl, trivial⟩, Ent.refl _, rfl⟩
      · refine ⟨[], lexT 0 15, by kernel_rfl, ?_⟩
        repeat (focus (refine ⟨fun h => ?_, fun h => ?_⟩; first | (focus (exfalso; first | (simp at h; done) | exact absurd (of_decide_eq_true h) (by assumption) | exact absurd (by assumption) (of_decide_eq_false h))) | (rotate_left; focus (exfalso; first | (simp at h; done) | exact absurd (of_decide_eq_true h) (by assumption) | exact absurd (by assumption) (of_decide_eq_false h))) | (focus (exfalso; simp at h; omega)) | (rotate_left; focus (exfalso; simp at h; omega)); clear h))
        refine ⟨by omega, by omega, c, rfl, ?_⟩
        repeat (focus (refine ⟨fun h => ?_, fun h => ?_⟩; first | (focus (exfalso; first | (simp at h; done) | exact absurd (of_decide_eq_true h) (by assumption) | exact absurd (by assumption) (of_decide_eq_false h))) | (rotate_left; focus (exfalso; first | (simp at h; done) | exact absurd (of_decide_eq_true h) (by assumption) | exact absurd (by assumption) (of_decide_eq_false h))) | (focus (exfalso; simp at h; omega)) | (rotate_left; focus (exfalso; simp at h; omega)); clear h))
        refine ⟨_, ro (fld (hRa 2 _ rfl)), ?_⟩
        repeat (focus (refine ⟨fun h => ?_, fun h => ?_⟩; first | (focus (exfalso; first | (simp at h; done) | exact absurd (of_decide_eq_true h) (by assumption) | exact absurd (by assumption) (of_decide_eq_false h))) | (rotate_left; focus (exfalso; first | (simp at h; done) | exact absurd (of_decide_eq_true h) (by assumption) | exact absurd (by assumption) (of_decide_eq_false h))) | (focus (exfalso; simp at h; omega)) | (rotate_left; focus (exfalso; simp at h; omega)); clear h))
        refine ⟨by omega, by omega, d, rfl, ?_⟩
        repeat (focus (refine ⟨fun h => ?_, fun h => ?_⟩; first | (focus (exfalso; first | (simp at h; done) | exact absurd (of_decide_eq_true h) (by assumption) | exact absurd (by assumption) (of_decide_eq_false h))) | (rotate_left; focus (exfalso; first | (simp at h; done) | exact absurd (of_decide_eq_true h) (by assumption) | exact absurd (by assumption) (of_decide_eq_false h))) | (focus (exfalso; simp at h; omega)) | (rotate_left; focus (exfalso; simp at h; omega)); clear h))
        refine ⟨_, ro (fld (hRb 2 _ rfl)), ?_⟩
        repeat (focus (refine ⟨fun h => ?_, fun h => ?_⟩; first | (focus (exfalso; first | (simp at h; done) | exact absurd (of_decide_eq_true h) (by assumption) | exact absurd (by assumption) (of_decide_eq_false h))) | (rotate_left; focus (exfalso; first | (simp at h; done) | exact absurd (of_decide_eq_true h) (by assumption) | exact absurd (by assumption) (of_decide_eq_false h))) | (focus (exfalso; simp at h; omega)) | (rotate_left; focus (exfalso; simp at h; omega)); clear h))
        (intro z hz; obtain rfl := wr_i64 hz (by omega) (by omega); clear hz)
        exact ⟨rfl, (i + 1, _), hI.step hga hgb hk hkn (by rw [Bool.true_and, eqv, if_neg h1', if_pos (.inr h7)]), by show a.length - (i + 1) < a.length - i; omega, ⟨rfl, rfl, trivial⟩, Ent.refl _, rfl⟩
    by_cases h3 : x.k = 3
    · repeat (focus (refine ⟨fun h => ?_, fun h => ?_⟩; first | (focus (exfalso; first | (simp at h; done) | exact absurd (of_decide_eq_true h) (by assumption) | exact absurd (by assumption) (of_decide_eq_false h))) | (rotate_left; focus (exfalso; first | (simp at h; done) | exact absurd (of_decide_eq_true h) (by assumption) | exact absurd (by assumption) (of_decide_eq_false h))) | (focus (exfalso; simp at h; omega)) | (rotate_left; focus (exfalso; simp at h; omega)); clear h))
      cases f
      · refine ⟨[], lexT 0 15, by kernel_rfl, ?_⟩
        repeat (focus (refine ⟨fun h => ?_, fun h => ?_⟩; first | (focus (exfalso; first | (simp at h; done) | exact absurd (of_decide_eq_true h) (by assumption) | exact absurd (by assumption) (of_decide_eq_false h))) | (rotate_left; focus (exfalso; first | (simp at h; done) | exact absurd (of_decide_eq_true h) (by assumption) | exact absurd (by assumption) (of_decide_eq_false h))) | (focus (exfalso; simp at h; omega)) | (rotate_left; focus (exfalso; simp at h; omega)); clear h))
        (intro z hz; obtain rfl := wr_i64 hz (by omega) (by omega); clear hz)
        exact ⟨rfl, (i + 1, false), hI.step hga hgb hk hkn rfl, by show a.length - (i + 1) < a.length - i; omega, ⟨rfl, rfl, trivial⟩, Ent.refl _, rfl⟩
      · refine ⟨[], lexT 0 15, by kernel_rfl, ?_⟩
        repeat (focus (refine ⟨fun h => ?_, fun h => ?_⟩; first | (focus (exfalso; first | (simp at h; done) | exact absurd (of_decide_eq_true h) (by assumption) | exact absurd (by assumption) (of_decide_eq_false h))) | (rotate_left; focus (exfalso; first | (simp at h; done) | exact absurd (of_decide_eq_true h) (by assumption) | exact absurd (by assumption) (of_decide_eq_false h))) | (focus (exfalso; simp at h; omega)) | (rotate_left; focus (exfalso; simp at h; omega)); clear h))
        refine ⟨by omega, by omega, c, rfl, ?_⟩
        repeat (focus (refine ⟨fun h => ?_, fun h => ?_⟩; first | (focus (exfalso; first | (simp at h; done) | exact absurd (of_decide_eq_true h) (by assumption) | exact absurd (by assumption) (of_decide_eq_false h))) | (rotate_left; focus (exfalso; first | (simp at h; done) | exact absurd (of_decide_eq_true h) (by assumption) | exact absurd (by assumption) (of_decide_eq_false h))) | (focus (exfalso; simp at h; omega)) | (rotate_left; focus (exfalso; simp at h; omega)); clear h))
        refine ⟨_, ro (fld (hRa 3 _ rfl)), ?_⟩
        repeat (focus (refine ⟨fun h => ?_, fun h => ?_⟩; first | (focus (exfalso; first | (simp at h; done) | exact absurd (of_decide_eq_true h) (by assumption) | exact absurd (by assumption) (of_decide_eq_false h))) | (rotate_left; focus (exfalso; first | (simp at h; done) | exact absurd (of_decide_eq_true h) (by assumption) | exact absurd (by assumption) (of_decide_eq_false h))) | (focus (exfalso; simp at h; omega)) | (rotate_left; focus (exfalso; simp at h; omega)); clear h))
        refine ⟨by omega, by omega, d, rfl, ?_⟩
        repeat (focus (refine ⟨fun h => ?_, fun h => ?_⟩; first | (focus (exfalso; first | (simp at h; done) | exact absurd (of_decide_eq_true h) (by assumption) | exact absurd (by assumption) (of_decide_eq_false h))) | (rotate_left; focus (exfalso; first | (simp at h; done) | exact absurd (of_decide_eq_true h) (by assumption) | exact absurd (by assumption) (of_decide_eq_false h))) | (focus (exfalso; simp at h; omega)) | (rotate_left; focus (exfalso; simp at h; omega)); clear h))
        refine ⟨_, ro (fld (hRb 3 _ rfl)), ?_⟩
        repeat (focus (refine ⟨fun h => ?_, fun h => ?_⟩; first | (focus (exfalso; first | (simp at h; done) | exact absurd (of_decide_eq_true h) (by assumption) | exact absurd (by assumption) (of_decide_eq_false h))) | (rotate_left; focus (exfalso; first | (simp at h; done) | exact absurd (of_decide_eq_true h) (by assumption) | exact absurd (by assumption) (of_decide_eq_false h))) | (focus (exfalso; simp at h; omega)) | (rotate_left; focus (exfalso; simp at h; omega)); clear h))
        (intro z hz; obtain rfl := wr_i64 hz (by omega) (by omega); clear hz)
        exact ⟨rfl, (i + 1, _), hI.step hga hgb hk hkn (by rw [Bool.true_and, eqv, if_neg h1', if_neg (by omega), if_pos h3]; cases x.b <;> cases y.b <;> rfl), by show a.length - (i + 1) < a.length - i; omega, ⟨rfl, rfl, trivial⟩, Ent.refl _, rfl⟩
    repeat (focus (refine ⟨fun h => ?_, fun h => ?_⟩; first | (focus (exfalso; first | (simp at h; done) | exact absurd (of_decide_eq_true h) (by assumption) | exact absurd (by assumption) (of_decide_eq_false h))) | (rotate_left; focus (exfalso; first | (simp at h; done) | exact absurd (of_decide_eq_true h) (by assumption) | exact absurd (by assumption) (of_decide_eq_false h))) | (focus (exfalso; simp at h; omega)) | (rotate_left; focus (exfalso; simp at h; omega)); clear h))
    cases f
    · refine ⟨[], lexT 0 15, by kernel_rfl, ?_⟩
      repeat (focus (refine ⟨fun h => ?_, fun h => ?_⟩; first | (focus (exfalso; first | (simp at h; done) | exact absurd (of_decide_eq_true h) (by assumption) | exact absurd (by assumption) (of_decide_eq_false h))) | (rotate_left; focus (exfalso; first | (simp at h; done) | exact absurd (of_decide_eq_true h) (by assumption) | exact absurd (by assumption) (of_decide_eq_false h))) | (focus (exfalso; simp at h; omega)) | (rotate_left; focus (exfalso; simp at h; omega)); clear h))
      (intro z hz; obtain rfl := wr_i64 hz (by omega) (by omega); clear hz)
      exact ⟨rfl, (i + 1, false), hI.step hga hgb hk hkn rfl, by show a.length - (i + 1) < a.length - i; omega, ⟨rfl, rfl, trivial⟩, Ent.refl _, rfl⟩
    · refine ⟨[], lexT 0 15, by kernel_rfl, ?_⟩
      repeat (focus (refine ⟨fun h => ?_, fun h => ?_⟩; first | (focus (exfalso; first | (simp at h; done) | exact absurd (of_decide_eq_true h) (by assumption) | exact absurd (by assumption) (of_decide_eq_false h))) | (rotate_left; focus (exfalso; first | (simp at h; done) | exact absurd (of_decide_eq_true h) (by assumption) | exact absurd (by assumption) (of_decide_eq_false h))) | (focus (exfalso; simp at h; omega)) | (rotate_left; focus (exfalso; simp at h; omega)); clear h))
      refine ⟨by omega, by omega, c, rfl, ?_⟩
      repeat (focus (refine ⟨fun h => ?_, fun h => ?_⟩; first | (focus (exfalso; first | (simp at h; done) | exact absurd (of_decide_eq_true h) (by assumption) | exact absurd (by assumption) (of_decide_eq_false h))) | (rotate_left; focus (exfalso; first | (simp at h; done) | exact absurd (of_decide_eq_true h) (by assumption) | exact absurd (by assumption) (of_decide_eq_false h))) | (focus (exfalso; simp at h; omega)) | (rotate_left; focus (exfalso; simp at h; omega)); clear h))
      refine ⟨_, ro (fld (hRa 4 _ rfl)), ?_⟩
      repeat (focus (refine ⟨fun h => ?_, fun h => ?_⟩; first | (focus (exfalso; first | (simp at h; done) | exact absurd (of_decide_eq_true h) (by assumption) | exact absurd (by assumption) (of_decide_eq_false h))) | (rotate_left; focus (exfalso; first | (simp at h; done) | exact absurd (of_decide_eq_true h) (by assumption) | exact absurd (by assumption) (of_decide_eq_false h))) | (focus (exfalso; simp at h; omega)) | (rotate_left; focus (exfalso; simp at h; omega)); clear h))
      refine ⟨by omega, by omega, d, rfl, ?_⟩
      repeat (focus (refine ⟨fun h => ?_, fun h => ?_⟩; first | (focus (exfalso; first | (simp at h; done) | exact absurd (of_decide_eq_true h) (by assumption) | exact absurd (by assumption) (of_decide_eq_false h))) | (rotate_left; focus (exfalso; first | (simp at h; done) | exact absurd (of_decide_eq_true h) (by assumption) | exact absurd (by assumption) (of_decide_eq_false h))) | (focus (exfalso; simp at h; omega)) | (rotate_left; focus (exfalso; simp at h; omega)); clear h))
      refine ⟨_, ro (fld (hRb 4 _ rfl)), ?_⟩
      repeat (focus (refine ⟨fun h => ?_, fun h => ?_⟩; first | (focus (exfalso; first | (simp at h; done) | exact absurd (of_decide_eq_true h) (by assumption) | exact absurd (by assumption) (of_decide_eq_false h))) | (rotate_left; focus (exfalso; first | (simp at h; done) | exact absurd (of_decide_eq_true h) (by assumption) | exact absurd (by assumption) (of_decide_eq_false h))) | (focus (exfalso; simp at h; omega)) | (rotate_left; focus (exfalso; simp at h; omega)); clear h))
      (intro z hz; obtain rfl := wr_i64 hz (by omega) (by omega); clear hz)
      exact ⟨rfl, (i + 1, _), hI.step hga hgb hk hkn (by rw [Bool.true_and, eqv, if_neg h1', if_neg (by omega), if_neg h3]), by show a.length - (i + 1) < a.length - i; omega, ⟨rfl, rfl, trivial⟩, Ent.refl _, rfl⟩
  · replace hb := of_decide_eq_false hb
    obtain ⟨_, hks, hfs⟩ := hI
    obtain rfl : i = a.length := by omega
    refine ⟨[], _, encoded_ok _ _ a ha hsm (hsa.mono fun _ _ => .inl), ?_⟩
    rintro v' h' ⟨s, rfl, A1, k1, cp1, xs1, rfl, rfl, hk1, hx1, hg1⟩
    refine ⟨[], _, encoded_ok _ _ b hob hsmb (hsb.mono fun _ _ => .inl), ?_⟩
    rintro v' h' ⟨s, rfl, A2, k2, cp2, xs2, rfl, rfl, hk2, hx2, hg2⟩
    by_cases he1 : doneE (encS a).1 (encS a).2 = 0
    rotate_left
    · repeat (focus (refine ⟨fun h => ?_, fun h => ?_⟩; first | (focus (exfalso; first | (simp at h; done) | exact absurd (of_decide_eq_true h) (by assumption) | exact absurd (by assumption) (of_decide_eq_false h))) | (rotate_left; focus (exfalso; first | (simp at h; done) | exact absurd (of_decide_eq_true h) (by assumption) | exact absurd (by assumption) (of_decide_eq_false h))) | (focus (exfalso; simp at h; omega)) | (rotate_left; focus (exfalso; simp at h; omega)); clear h))
      exact ⟨_, Ent.nil _, rfl⟩
    repeat (focus (refine ⟨fun h => ?_, fun h => ?_⟩; first | (focus (exfalso; first | (simp at h; done) | exact absurd (of_decide_eq_true h) (by assumption) | exact absurd (by assumption) (of_decide_eq_false h))) | (rotate_left; focus (exfalso; first | (simp at h; done) | exact absurd (of_decide_eq_true h) (by assumption) | exact absurd (by assumption) (of_decide_eq_false h))) | (focus (exfalso; simp at h; omega)) | (rotate_left; focus (exfalso; simp at h; omega)); clear h))
    by_cases he2 : doneE (encS b).1 (encS b).2 = 0
    rotate_left
    · repeat (focus (refine ⟨fun h => ?_, fun h => ?_⟩; first | (focus (exfalso; first | (simp at h; done) | exact absurd (of_decide_eq_true h) (by assumption) | exact absurd (by assumption) (of_decide_eq_false h))) | (rotate_left; focus (exfalso; first | (simp at h; done) | exact absurd (of_decide_eq_true h) (by assumption) | exact absurd (by assumption) (of_decide_eq_false h))) | (focus (exfalso; simp at h; omega)) | (rotate_left; focus (exfalso; simp at h; omega)); clear h))
      exact ⟨_, Ent.nil _, rfl⟩
    repeat (focus (refine ⟨fun h => ?_, fun h => ?_⟩; first | (focus (exfalso; first | (simp at h; done) | exact absurd (of_decide_eq_true h) (by assumption) | exact absurd (by assumption) (of_decide_eq_false h))) | (rotate_left; focus (exfalso; first | (simp at h; done) | exact absurd (of_decide_eq_true h) (by assumption) | exact absurd (by assumption) (of_decide_eq_false h))) | (focus (exfalso; simp at h; omega)) | (rotate_left; focus (exfalso; simp at h; omega)); clear h))
    have hd : ∀ {l : List Item}, doneE (encS l).1 (encS l).2 = 0 → (encS l).2 = 0 ∧ doneB (encS l).1 (encS l).2 = (encS l).1 ∧ (encS l).1.length ≤ 1048576 := by
      intro l h
      unfold doneE at h
      split at h
      · rename_i h0
        split at h
        · rename_i h00
          exact ⟨h0, by rw [doneB, if_pos ⟨h0, h00⟩], h00⟩
        · cases h
      · contradiction
    obtain ⟨z1, d1, l1⟩ := hd he1
    obtain ⟨z2, d2, l2⟩ := hd he2
    rw [d1] at hk1 hx1
    rw [d2] at hk2 hx2
    refine ⟨[], _, same_ok _ _ _ _ _ (BsR.own 0 rfl hk1 hx1 hg1) (BsR.own 1 rfl hk2 hx2 hg2) (by omega), ?_⟩
    rintro v' h' ⟨rfl, rfl⟩
    repeat (focus (refine ⟨fun h => ?_, fun h => ?_⟩; first | (focus (exfalso; first | (simp at h; done) | exact absurd (of_decide_eq_true h) (by assumption) | exact absurd (by assumption) (of_decide_eq_false h))) | (rotate_left; focus (exfalso; first | (simp at h; done) | exact absurd (of_decide_eq_true h) (by assumption) | exact absurd (by assumption) (of_decide_eq_false h))) | (focus (exfalso; simp at h; omega)) | (rotate_left; focus (exfalso; simp at h; omega)); clear h))
    refine ⟨_, Ent.nil _, ?_⟩
    have hL := encL_inj ha hob hll (fun i x y hx hy => hks i x y (List.getElem?_eq_some_iff.1 hx).1 hx hy) (encS_of z1) (encS_of z2)
    have hf : f = decide ((encS a).1 = (encS b).1) := by
      rw [Bool.eq_iff_iff, decide_eq_true_iff, hL, hfs]
      exact ⟨fun h i x y hx hy => h i x y (List.getElem?_eq_some_iff.1 hx).1 hx hy, fun h i x y _ hx hy => h i x y hx hy⟩
    subst hf
    first | rfl | (show Value.bool (decide _) = _; simp)

theorem WireDistinct_law (R : Rd) (v0 v1 : Value) (s0 : SeenV R (.sl 6 ItemShp) v0) (s1 : SeenV R (.sl 6 ItemShp) v1) :
    Fn Try.prog 7 [v0, v1] [] R (fun v _ => v = .bool true) := by
  obtain ⟨l, hok, hl, hs⟩ := s0.items
  obtain ⟨m, hom, hm, ht⟩ := s1.items
  rw [maxLen_eq] at hl hm
  exact WireDistinct_ok R v0 v1 l m hok hom hl hm hs ht

end Go.Proofs.Ytknilabilihlnaa
