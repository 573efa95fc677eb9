/-
  The encoding of values by the reference; the law WireEncodes: the walk.
-/
import Derived.Test.YtknilabilihlnaaWrj
namespace Go.Proofs.Ytknilabilihlnaa
open Go Go.RowKit

theorem fold_err : ∀ (l : List Item) {st : List UInt8 × Int}, st.2 ≠ 0 → l.foldl put1 st = st
  | [], _, _ => rfl
  | x :: l, st, h => by
    rw [List.foldl_cons]
    have : put1 st x = st := by unfold put1; rw [if_neg h]
    rw [this]
    exact fold_err l h

/-- The reference has encoded the first i values. -/
def EI (l : List Item) (i : Nat) (A : Option Addr) (k : Nat) (xs : List Value) : Prop :=
  i ≤ l.length ∧ ∃ out, encS (l.take i) = (out, 0) ∧ out.length ≤ i * 410 ∧ k = out.length ∧ xs = BV out ∧ grow k A

theorem EI.step {l : List Item} {i : Nat} {A : Option Addr} {k : Nat} {xs : List Value} (h : EI l i A k xs) {x : Item} (hget : l[i]? = some x) (hx : x.Ok) (h400 : x.s.length ≤ 400) {y : List UInt8} (hy : enc1 x = some y)
    {A' : Option Addr} {k' : Nat} {xs' : List Value} (hk' : k' = k + y.length) (hx' : xs' = xs ++ BV y) (hg' : grow k' A') : EI l (i + 1) A' k' xs' := by
  obtain ⟨hi, out, he, hl, hk, hxs, _⟩ := h
  have := (List.getElem?_eq_some_iff.1 hget).1
  have hyl := enc1_len hx hy
  refine ⟨by omega, out ++ y, ?_, by rw [List.length_append]; omega, by rw [List.length_append]; omega, by rw [BV_append, ← hxs, hx'], hg'⟩
  rw [encS_take hget, he, put_some hy, if_pos rfl]

theorem EI.err {l : List Item} {i : Nat} {A : Option Addr} {k : Nat} {xs : List Value} (h : EI l i A k xs) {x : Item} (hget : l[i]? = some x) (hy : enc1 x = none) : (encS l).2 = 1 := by
  obtain ⟨hi, out, he, _⟩ := h
  have h1 : encS (l.take (i + 1)) = (out, 1) := by rw [encS_take hget, he, put_none hy, if_pos rfl]
  have h2 : encS l = (l.drop (i + 1)).foldl put1 (encS (l.take (i + 1))) := by
    unfold encS
    rw [← List.foldl_append, List.take_append_drop]
  rw [h2, h1, fold_err _ (by simp)]

theorem OwnB.none (h : Hp) : Ent h [.row .none 0 0 5 1 [] (0, 0)] := (Ent.nil h).trans (Ent.nilrow [] _ _)
theorem done1 {st : List UInt8 × Int} (h : st.2 = 1) : doneE st.1 st.2 = 1 ∧ doneB st.1 st.2 = [] := by
  rw [h]; exact ⟨by simp [doneE], by simp [doneB]⟩

set_option maxRecDepth 100000 in
set_option maxHeartbeats 16000000 in
theorem refEncode_ok (R : Rd) (v : Value) (l : List Item) (hoks : ∀ x ∈ l, x.Ok) (hsm : smallB l = true) (hs : ItemsR R v l) :
    Fn Try.prog 28 [v] [] R (fun v h => ∃ s, v = .tuple ⟨[s, .int .i64 (doneE (encS l).1 (encS l).2)]⟩ ∧ OwnB s (doneB (encS l).1 (encS l).2) h) := by
  obtain ⟨A0, cap0, rfl⟩ := hs.form
  have hML := maxLen_eq
  rw [smallB, Bool.and_eq_true] at hsm
  have hl40 : l.length ≤ 40 := of_decide_eq_true hsm.2
  have hall : ∀ x ∈ l, x.s.length ≤ 400 := fun x hx => of_decide_eq_true (List.all_eq_true.1 hsm.1 x hx)
  refine fn_of_vc mixed tabOk Try.func28 rfl (by kernel_rfl) (Nat.le_of_ble_eq_true rfl) ?_
  refine ⟨rfl, fun g => ?_⟩
  refine ⟨[2, 3, 4, 5, 6, 8, 9, 10, 11, 12, 13, 14, 15, 16, 17, 18, 19, 20, 21, 22, 23, 24, 25, 26, 27, 28, 29, 30, 31, 32, 33, 34, 35, 36, 37, 38, 39, 40, 41, 42, 43, 44, 45, 46, 47, 48, 49, 50, 51, 52, 53, 54, 55, 56, 57, 58, 59, 60, 61, 62, 63, 64, 65, 66, 67, 68, 69, 70, 71, 72, 73, 74, 75, 76, 77, 78], [4, 5],
    Nat × Option Addr × Nat × Nat × List Value,
    fun ⟨i, A, k, _, xs⟩ => EI l i A k xs,
    fun ⟨i, A, k, cap, _⟩ => [.slice A k cap, .int .i64 i],
    fun ⟨_, A, k, cap, xs⟩ => [.row A k cap 5 1 xs (0, 0)],
    fun ⟨i, _, _, _, _⟩ => l.length - i, (0, _, _, _, _), ⟨by omega, [], rfl, by simp, rfl, rfl, .inl rfl⟩, ⟨rfl, rfl, trivial⟩, Ent.refl _, ?_⟩
  rintro ⟨i, A, k, cap, xs⟩ hI js
  have hI : EI l i A k xs := hI
  have hkl : k ≤ 16400 := by obtain ⟨_, out, _, _, _⟩ := hI; omega
  have hgA : grow k A := by obtain ⟨_, out, _, _, _, _, h⟩ := hI; exact h
  refine ⟨fun hb => ?_, fun hb => ?_⟩
  · replace hb := of_decide_eq_true hb
    have h1 : i < l.length := by omega
    obtain ⟨a, rfl, hRa⟩ := hs.at_ (List.getElem?_eq_getElem h1)
    have hget : l[i]? = some l[i] := List.getElem?_eq_getElem h1
    have hmem : l[i] ∈ l := List.getElem_mem h1
    have hok := hoks _ hmem
    have h400 := hall _ hmem
    generalize l[i] = x at hRa hget hok h400
    clear hmem
    obtain ⟨xk, xu, xn, xb, xs', xm⟩ := x
    have hxs' : xs'.length ≤ 400 := h400
    have hn1 : -9223372036854775808 ≤ xn := hok.n1
    have hn2 : xn ≤ 9223372036854775807 := hok.n2
    have hu : xu ≤ 18446744073709551615 := hok.u
    have hz0 := zig_nonneg xn
    have hz1 := zig_le hn1 hn2
    have hu10 := usize_le10 hu
    have hz10 := usize_le10 (n := (zig xn).toNat) (by omega)
    have hc10 := usize_le10 (n := xn.toNat) (by omega)
    have hs10 := usize_le10 (n := xs'.length) (by omega)
    have hlu := length_num xu
    have hlz := length_num (zig xn).toNat
    have hlc := length_num xn.toNat
    have hls := length_num xs'.length
    refine ⟨by omega, by omega, a, rfl, ?_⟩
    refine ⟨Item.cells ⟨xk, xu, xn, xb, xs', xm⟩, rdn fun j u hu => ro (hRa j u hu), rfl, ?_⟩
    intro g2
    refine ⟨rfl, rfl, 1, rfl, rfl, Nat.le_of_ble_eq_true rfl, ?_⟩
    refine ⟨_, ld 1 rfl rfl, ?_⟩
    refine ⟨fun hb => ?_, fun hb => ?_⟩
    · replace hb := of_decide_eq_true hb
      subst hb
      refine ⟨_, ld 1 rfl rfl, ?_⟩
      refine ⟨[], _, Number_ok _ xu hu, ?_⟩
      rintro v h' ⟨A1, k1, cap1, xs1, rfl, rfl, hk1, rfl, hg1⟩
      refine ⟨BV (num xu), by rw [BV_length, hk1]; exact (Nat.mul_one _).symm, (BsR.own 2 rfl hk1 rfl hg1).src, BV_one _, by show (_ + _) * 1 ≤ _; omega, by omega, .inr ⟨0, rfl, rfl, rfl, rfl, rfl, rfl, fun A' cap' hg' => ?_⟩⟩
      (intro z hz; obtain rfl := wr_i64 hz (by omega) (by omega); clear hz)
      exact ⟨rfl, (i + 1, A', _, cap', _), hI.step hget hok h400 (y := num xu) rfl (by rw [hk1]) rfl hg', by show l.length - (i + 1) < l.length - i; omega, ⟨rfl, rfl, trivial⟩, Ent.drop [_] [_, _], rfl⟩
    replace hb := of_decide_eq_false hb
    have n1 : ¬ xk = 1 := hb
    clear hb
    refine ⟨fun hb => ?_, fun hb => ?_⟩
    · replace hb := of_decide_eq_true hb
      subst hb
      refine ⟨_, ld 1 rfl rfl, ?_⟩
      refine ⟨[], _, refZigzag_ok _ xn hn1 hn2, ?_⟩
      rintro v h' ⟨rfl, rfl⟩
      rw [← Int.toNat_of_nonneg hz0]
      refine ⟨[], _, Number_ok _ (zig xn).toNat (by omega), ?_⟩
      rintro v h' ⟨A1, k1, cap1, xs1, rfl, rfl, hk1, rfl, hg1⟩
      refine ⟨BV (num (zig xn).toNat), by rw [BV_length, hk1]; exact (Nat.mul_one _).symm, (BsR.own 2 rfl hk1 rfl hg1).src, BV_one _, by show (_ + _) * 1 ≤ _; omega, by omega, .inr ⟨0, rfl, rfl, rfl, rfl, rfl, rfl, fun A' cap' hg' => ?_⟩⟩
      (intro z hz; obtain rfl := wr_i64 hz (by omega) (by omega); clear hz)
      exact ⟨rfl, (i + 1, A', _, cap', _), hI.step hget hok h400 (y := num (zig xn).toNat) rfl (by rw [hk1]) rfl hg', by show l.length - (i + 1) < l.length - i; omega, ⟨rfl, rfl, trivial⟩, Ent.drop [_] [_, _], rfl⟩
    replace hb := of_decide_eq_false hb
    have n2 : ¬ xk = 2 := hb
    clear hb
    refine ⟨fun hb => ?_, fun hb => ?_⟩
    · replace hb := of_decide_eq_true hb
      subst hb
      refine ⟨_, ld 1 rfl rfl, ?_⟩
      cases xb
      · repeat (focus (refine ⟨fun h => ?_, fun h => ?_⟩; first | (focus (exfalso; first | (simp at h; done) | exact absurd (of_decide_eq_true h) (by assumption) | exact absurd (by assumption) (of_decide_eq_false h))) | (rotate_left; focus (exfalso; first | (simp at h; done) | exact absurd (of_decide_eq_true h) (by assumption) | exact absurd (by assumption) (of_decide_eq_false h))) | (focus (exfalso; simp at h; omega)) | (rotate_left; focus (exfalso; simp at h; omega)); clear h))
        refine ⟨rfl, fun g3 => ?_⟩
        refine ⟨BV [0], rfl, (BsR.own 2 (bs := [0]) rfl rfl rfl (.inr ⟨_, rfl⟩)).src, rfl, by show (_ + _) * 1 ≤ _; omega, by omega, .inr ⟨0, rfl, rfl, rfl, rfl, rfl, rfl, fun A' cap' hg' => ?_⟩⟩
        (intro z hz; obtain rfl := wr_i64 hz (by omega) (by omega); clear hz)
        exact ⟨rfl, (i + 1, A', _, cap', _), hI.step hget hok h400 (y := [0]) rfl rfl rfl hg', by show l.length - (i + 1) < l.length - i; omega, ⟨rfl, rfl, trivial⟩, Ent.drop [_] [_, _], rfl⟩
      · repeat (focus (refine ⟨fun h => ?_, fun h => ?_⟩; first | (focus (exfalso; first | (simp at h; done) | exact absurd (of_decide_eq_true h) (by assumption) | exact absurd (by assumption) (of_decide_eq_false h))) | (rotate_left; focus (exfalso; first | (simp at h; done) | exact absurd (of_decide_eq_true h) (by assumption) | exact absurd (by assumption) (of_decide_eq_false h))) | (focus (exfalso; simp at h; omega)) | (rotate_left; focus (exfalso; simp at h; omega)); clear h))
        refine ⟨rfl, fun g3 => ?_⟩
        refine ⟨BV [1], rfl, (BsR.own 2 (bs := [1]) rfl rfl rfl (.inr ⟨_, rfl⟩)).src, rfl, by show (_ + _) * 1 ≤ _; omega, by omega, .inr ⟨0, rfl, rfl, rfl, rfl, rfl, rfl, fun A' cap' hg' => ?_⟩⟩
        (intro z hz; obtain rfl := wr_i64 hz (by omega) (by omega); clear hz)
        exact ⟨rfl, (i + 1, A', _, cap', _), hI.step hget hok h400 (y := [1]) rfl rfl rfl hg', by show l.length - (i + 1) < l.length - i; omega, ⟨rfl, rfl, trivial⟩, Ent.drop [_] [_, _], rfl⟩
    replace hb := of_decide_eq_false hb
    have n3 : ¬ xk = 3 := hb
    clear hb
    refine ⟨fun hb => ?_, fun hb => ?_⟩
    · replace hb := of_decide_eq_true hb
      subst hb
      repeat (focus (refine ⟨fun h => ?_, fun h => ?_⟩; first | (focus (exfalso; first | (simp at h; done) | exact absurd (of_decide_eq_true h) (by assumption) | exact absurd (by assumption) (of_decide_eq_false h))) | (rotate_left; focus (exfalso; first | (simp at h; done) | exact absurd (of_decide_eq_true h) (by assumption) | exact absurd (by assumption) (of_decide_eq_false h))) | (focus (exfalso; simp at h; omega)) | (rotate_left; focus (exfalso; simp at h; omega)); clear h))
      refine ⟨[1], (.q 0 (.q 1 (.q 2 (.q 3 (.q 4 (.q 7 (.q 8 (.one 5 (.one 6 (.one 9 (.q 10 .nil))))))))))), by kernel_rfl, ?_⟩
      refine ⟨_, ld 0 rfl rfl, ?_⟩
      intro z hz; obtain rfl : z = (xs'.length : Int) := wr_u64 hz (show (0 : Int) ≤ (xs'.length : Int) by omega) (show (xs'.length : Int) ≤ _ by omega)
      clear hz
      refine ⟨_, ld 0 rfl rfl, ?_⟩
      refine ⟨[], _, Number_ok _ xs'.length (by omega), ?_⟩
      rintro v h' ⟨A1, k1, cap1, xs1, rfl, rfl, hk1, rfl, hg1⟩
      refine ⟨BV (num xs'.length), by rw [BV_length, hk1]; exact (Nat.mul_one _).symm, (BsR.own 1 rfl hk1 rfl hg1).src, BV_one _, by show (_ + _) * 1 ≤ _; omega, by omega, .inr ⟨0, rfl, rfl, rfl, rfl, rfl, rfl, fun A' cap' hg' => ?_⟩⟩
      refine ⟨rfl, BV_one xs', by show (_ + xs'.length) * 1 ≤ _; omega, by show _ + xs'.length ≤ _; omega, .inr ⟨0, rfl, rfl, rfl, rfl, rfl, rfl, fun A'' cap'' hg'' => ?_⟩⟩
      (intro z hz; obtain rfl := wr_i64 hz (by omega) (by omega); clear hz)
      exact ⟨rfl, (i + 1, A'', _, cap'', _), hI.step hget hok h400 (y := num xs'.length ++ xs') rfl (by rw [hk1, List.length_append, Nat.add_assoc]) (by rw [BV_append, List.append_assoc]; rfl) hg'', by show l.length - (i + 1) < l.length - i; omega, ⟨rfl, rfl, trivial⟩, (Ent.dropr [_] _).trans (Ent.drop [_] [_]), rfl⟩
    replace hb := of_decide_eq_false hb
    have n4 : ¬ xk = 4 := hb
    clear hb
    refine ⟨fun hb => ?_, fun hb => ?_⟩
    · replace hb := of_decide_eq_true hb
      subst hb
      refine ⟨[1], (.q 0 (.q 1 (.q 2 (.q 3 (.q 4 (.q 7 (.q 8 (.one 5 (.one 6 (.one 9 (.q 10 .nil))))))))))), by kernel_rfl, ?_⟩
      refine ⟨_, ld 0 rfl rfl, ?_⟩
      intro z hz; obtain rfl : z = (xs'.length : Int) := wr_u64 hz (show (0 : Int) ≤ (xs'.length : Int) by omega) (show (xs'.length : Int) ≤ _ by omega)
      clear hz
      refine ⟨_, ld 0 rfl rfl, ?_⟩
      refine ⟨[], _, Number_ok _ xs'.length (by omega), ?_⟩
      rintro v h' ⟨A1, k1, cap1, xs1, rfl, rfl, hk1, rfl, hg1⟩
      refine ⟨BV (num xs'.length), by rw [BV_length, hk1]; exact (Nat.mul_one _).symm, (BsR.own 1 rfl hk1 rfl hg1).src, BV_one _, by show (_ + _) * 1 ≤ _; omega, by omega, .inr ⟨0, rfl, rfl, rfl, rfl, rfl, rfl, fun A' cap' hg' => ?_⟩⟩
      refine ⟨rfl, BV_one xs', by show (_ + xs'.length) * 1 ≤ _; omega, by show _ + xs'.length ≤ _; omega, .inr ⟨0, rfl, rfl, rfl, rfl, rfl, rfl, fun A'' cap'' hg'' => ?_⟩⟩
      (intro z hz; obtain rfl := wr_i64 hz (by omega) (by omega); clear hz)
      exact ⟨rfl, (i + 1, A'', _, cap'', _), hI.step hget hok h400 (y := num xs'.length ++ xs') rfl (by rw [hk1, List.length_append, Nat.add_assoc]) (by rw [BV_append, List.append_assoc]; rfl) hg'', by show l.length - (i + 1) < l.length - i; omega, ⟨rfl, rfl, trivial⟩, (Ent.dropr [_] _).trans (Ent.drop [_] [_]), rfl⟩
    replace hb := of_decide_eq_false hb
    have n5 : ¬ xk = 5 := hb
    clear hb
    refine ⟨fun hb => ?_, fun hb => ?_⟩
    · replace hb := of_decide_eq_true hb
      subst hb
      refine ⟨_, ld 1 rfl rfl, ?_⟩
      refine ⟨fun h32 => ?_, fun h32 => ?_⟩
      · have h32 : xs'.length ≠ 32 := by intro h; simp at h32; exact h32 (by show (xs'.length : Int) = 32; omega)
        have hE := done1 (hI.err hget (by simp [enc1, h32]))
        exact ⟨_, OwnB.none _, _, by rw [hE.1]; rfl, by rw [hE.2]; exact ⟨_, _, _, _, rfl, rfl, rfl, rfl, .inl rfl⟩⟩
      · have h32 : xs'.length = 32 := by simp at h32; have : (xs'.length : Int) = 32 := h32; omega
        refine ⟨_, ld 1 rfl rfl, ?_⟩
        refine ⟨rfl, BV_one xs', by show (_ + xs'.length) * 1 ≤ _; omega, by show _ + xs'.length ≤ _; omega, .inr ⟨0, rfl, rfl, rfl, rfl, rfl, rfl, fun A' cap' hg' => ?_⟩⟩
        (intro z hz; obtain rfl := wr_i64 hz (by omega) (by omega); clear hz)
        exact ⟨rfl, (i + 1, A', _, cap', _), hI.step hget hok h400 (y := xs') (by simp [enc1, h32]) rfl rfl hg', by show l.length - (i + 1) < l.length - i; omega, ⟨rfl, rfl, trivial⟩, Ent.drop [_] [_], rfl⟩
    replace hb := of_decide_eq_false hb
    have n6 : ¬ xk = 6 := hb
    clear hb
    refine ⟨fun hb => ?_, fun hb => ?_⟩
    · replace hb := of_decide_eq_true hb
      subst hb
      refine ⟨_, ld 1 rfl rfl, ?_⟩
      refine ⟨fun hneg => ?_, fun hneg => ?_⟩
      · have hneg : xn < 0 := of_decide_eq_true hneg
        have hE := done1 (hI.err hget (by simp [enc1, hneg]))
        exact ⟨_, OwnB.none _, _, by rw [hE.1]; rfl, by rw [hE.2]; exact ⟨_, _, _, _, rfl, rfl, rfl, rfl, .inl rfl⟩⟩
      · have hneg : ¬ xn < 0 := of_decide_eq_false hneg
        refine ⟨_, ld 1 rfl rfl, ?_⟩
        intro z hz; obtain rfl : z = (xn.toNat : Int) := by
          have : z = xn := wr_u64 hz (show 0 ≤ xn by omega) (show xn ≤ _ by omega)
          omega
        clear hz
        refine ⟨[], _, Number_ok _ xn.toNat (by omega), ?_⟩
        rintro v h' ⟨A1, k1, cap1, xs1, rfl, rfl, hk1, rfl, hg1⟩
        refine ⟨BV (num xn.toNat), by rw [BV_length, hk1]; exact (Nat.mul_one _).symm, (BsR.own 2 rfl hk1 rfl hg1).src, BV_one _, by show (_ + _) * 1 ≤ _; omega, by omega, .inr ⟨0, rfl, rfl, rfl, rfl, rfl, rfl, fun A' cap' hg' => ?_⟩⟩
        (intro z hz; obtain rfl := wr_i64 hz (by omega) (by omega); clear hz)
        exact ⟨rfl, (i + 1, A', _, cap', _), hI.step hget hok h400 (y := num xn.toNat) (by simp [enc1, hneg]) (by rw [hk1]) rfl hg', by show l.length - (i + 1) < l.length - i; omega, ⟨rfl, rfl, trivial⟩, Ent.drop [_] [_, _], rfl⟩
    replace hb := of_decide_eq_false hb
    have n7 : ¬ xk = 7 := hb
    clear hb
    (intro z hz; obtain rfl := wr_i64 hz (by omega) (by omega); clear hz)
    exact ⟨rfl, (i + 1, A, k, cap, xs), hI.step hget hok h400 (y := []) (by simp [enc1, n1, n2, n3, n4, n5, n6, n7]) rfl (by simp [BV]) hgA, by show l.length - (i + 1) < l.length - i; omega, ⟨rfl, rfl, trivial⟩, Ent.drop [_] [_], rfl⟩
  · replace hb := of_decide_eq_false hb
    obtain ⟨hi, out, he, hl, hk, hx, _⟩ := hI
    obtain rfl : i = l.length := by omega
    rw [List.take_length] at he
    subst hk
    rw [he]
    refine ⟨fun hb => ?_, fun hb => ?_⟩
    · replace hb := of_decide_eq_true hb
      refine ⟨_, OwnB.none _, .slice .none 0 0, ?_, ?_⟩
      · show _ = Value.tuple ⟨[_, .int .i64 (doneE out 0)]⟩; rw [doneE, if_pos rfl, if_neg (by omega)]; rfl
      · show OwnB _ (doneB out 0) _; rw [doneB, if_neg (by omega)]; exact ⟨_, _, _, _, rfl, rfl, rfl, rfl, .inl rfl⟩
    · replace hb := of_decide_eq_false hb
      refine ⟨_, Ent.refl _, .slice A out.length cap, ?_, ?_⟩
      · show _ = Value.tuple ⟨[_, .int .i64 (doneE out 0)]⟩; rw [doneE, if_pos rfl, if_pos (by omega)]; rfl
      · show OwnB _ (doneB out 0) _; rw [doneB, if_pos ⟨rfl, by omega⟩]; exact ⟨_, _, _, _, rfl, rfl, rfl, hx, hgA⟩

def knownB (k : Int) : Bool := decide (1 ≤ k) && decide (k ≤ 7)
theorem Known_ok (R : Rd) (k : Int) : Fn Try.prog 29 [.int .i64 k] [] R (fun v h => v = .bool (knownB k) ∧ h = []) := by
  refine fn_of_vc mixed tabOk Try.func29 rfl (by kernel_rfl) (Nat.le_of_ble_eq_true rfl) ?_
  by_cases h1 : 1 ≤ k
  · repeat (focus (refine ⟨fun h => ?_, fun h => ?_⟩; first | (focus (exfalso; first | (simp at h; done) | exact absurd (of_decide_eq_true h) (by assumption) | exact absurd (by assumption) (of_decide_eq_false h))) | (rotate_left; focus (exfalso; first | (simp at h; done) | exact absurd (of_decide_eq_true h) (by assumption) | exact absurd (by assumption) (of_decide_eq_false h))) | (focus (exfalso; simp at h; omega)) | (rotate_left; focus (exfalso; simp at h; omega)); clear h))
    refine ⟨_, Ent.refl _, ?_, rfl⟩
    show Value.bool (decide (k ≤ 7)) = _
    rw [knownB, decide_eq_true h1, Bool.true_and]
  · repeat (focus (refine ⟨fun h => ?_, fun h => ?_⟩; first | (focus (exfalso; first | (simp at h; done) | exact absurd (of_decide_eq_true h) (by assumption) | exact absurd (by assumption) (of_decide_eq_false h))) | (rotate_left; focus (exfalso; first | (simp at h; done) | exact absurd (of_decide_eq_true h) (by assumption) | exact absurd (by assumption) (of_decide_eq_false h))) | (focus (exfalso; simp at h; omega)) | (rotate_left; focus (exfalso; simp at h; omega)); clear h))
    refine ⟨_, Ent.refl _, ?_, rfl⟩
    show Value.bool false = _
    rw [knownB, decide_eq_false h1, Bool.false_and]

set_option maxRecDepth 100000 in
set_option maxHeartbeats 4000000 in
theorem WireEncodes_ok (R : Rd) (v : Value) (l : List Item) (hoks : ∀ x ∈ l, x.Ok) (hll : l.length ≤ 9223372036854775807) (hs : ItemsR R v l) :
    Fn Try.prog 6 [v] [] R (fun v _ => v = .bool true) := by
  refine fn_of_vc mixed tabOk Try.func6 rfl (by kernel_rfl) (Nat.le_of_ble_eq_true rfl) ?_
  refine ⟨[], _, awake_ok _, ?_⟩
  rintro v' h' ⟨rfl, rfl⟩
  repeat (focus (refine ⟨fun h => ?_, fun h => ?_⟩; first | (focus (exfalso; first | (simp at h; done) | exact absurd (of_decide_eq_true h) (by assumption) | exact absurd (by assumption) (of_decide_eq_false h))) | (rotate_left; focus (exfalso; first | (simp at h; done) | exact absurd (of_decide_eq_true h) (by assumption) | exact absurd (by assumption) (of_decide_eq_false h))) | (focus (exfalso; simp at h; omega)) | (rotate_left; focus (exfalso; simp at h; omega)); clear h))
  refine ⟨[], _, small_ok _ v l hll (hs.mono fun _ _ => .inl), ?_⟩
  rintro v' h' ⟨rfl, rfl⟩
  cases hsm : smallB l
  · repeat (focus (refine ⟨fun h => ?_, fun h => ?_⟩; first | (focus (exfalso; first | (simp at h; done) | exact absurd (of_decide_eq_true h) (by assumption) | exact absurd (by assumption) (of_decide_eq_false h))) | (rotate_left; focus (exfalso; first | (simp at h; done) | exact absurd (of_decide_eq_true h) (by assumption) | exact absurd (by assumption) (of_decide_eq_false h))) | (focus (exfalso; simp at h; omega)) | (rotate_left; focus (exfalso; simp at h; omega)); clear h))
    exact ⟨_, Ent.nil _, rfl⟩
  · repeat (focus (refine ⟨fun h => ?_, fun h => ?_⟩; first | (focus (exfalso; first | (simp at h; done) | exact absurd (of_decide_eq_true h) (by assumption) | exact absurd (by assumption) (of_decide_eq_false h))) | (rotate_left; focus (exfalso; first | (simp at h; done) | exact absurd (of_decide_eq_true h) (by assumption) | exact absurd (by assumption) (of_decide_eq_false h))) | (focus (exfalso; simp at h; omega)) | (rotate_left; focus (exfalso; simp at h; omega)); clear h))
    refine ⟨[], _, encoded_ok _ v l hoks hsm (hs.mono fun _ _ => .inl), ?_⟩
    rintro v' h' ⟨s, rfl, A1, k1, cap1, xs1, rfl, rfl, hk1, hx1, hg1⟩
    refine ⟨[], _, refEncode_ok _ v l hoks hsm (hs.mono fun _ _ => .inl), ?_⟩
    rintro v' h' ⟨s, rfl, A2, k2, cap2, xs2, rfl, rfl, hk2, hx2, hg2⟩
    have hlen : (doneB (encS l).1 (encS l).2).length ≤ 1048576 := by
      unfold doneB
      split
      · omega
      · simp
    refine ⟨[], _, same_ok _ _ _ _ _ (BsR.own 0 rfl hk1 hx1 hg1) (BsR.own 1 rfl hk2 hx2 hg2) (by omega), ?_⟩
    rintro v' h' ⟨rfl, rfl⟩
    repeat (focus (refine ⟨fun h => ?_, fun h => ?_⟩; first | (focus (exfalso; first | (simp at h; done) | exact absurd (of_decide_eq_true h) (by assumption) | exact absurd (by assumption) (of_decide_eq_false h))) | (rotate_left; focus (exfalso; first | (simp at h; done) | exact absurd (of_decide_eq_true h) (by assumption) | exact absurd (by assumption) (of_decide_eq_false h))) | (focus (exfalso; simp at h; omega)) | (rotate_left; focus (exfalso; simp at h; omega)); clear h))
    refine ⟨_, Ent.nil _, ?_⟩
    first | rfl | (show Value.bool (decide _) = _; simp)

theorem WireEncodes_law (R : Rd) (v0 : Value) (s0 : SeenV R (.sl 6 ItemShp) v0) :
    Fn Try.prog 6 [v0] [] R (fun v _ => v = .bool true) := by
  obtain ⟨l, hok, hl, hs⟩ := s0.items
  exact WireEncodes_ok R v0 l hok (by rw [maxLen_eq] at hl; exact hl) hs

end Go.Proofs.Ytknilabilihlnaa
