/-
  Transfer: contracts of package slices' functions, of stripe.Verify, and of the encoding of heads and parts.
-/
import Derived.Test.YtgnmbgbiajgpeaaDoorTrb
namespace Go.Proofs.YtgnmbgbiajgpeaaDoor
open Go Go.RowKit
set_option linter.unusedVariables false

/-- Bytes that may be read. -/
def Bs (R : Rd) (v : Value) (l : Str) : Prop := ∃ A cap, v = .slice A l.length cap ∧ l.length ≤ cap ∧ BsR R v l
theorem Bs.rh {R : Rd} {v : Value} {l : Str} (h : Bs R v l) (hp : Hp) : Bs (RH R hp) v l := by
  obtain ⟨A, cap, rfl, hc, hs⟩ := h
  exact ⟨A, cap, rfl, hc, hs.rh hp⟩
def OwnBl (v : Value) (l : Str) (h : Hp) : Prop := ∃ A cap, v = .slice A l.length cap ∧ h = [.row A l.length cap 5 1 (BV l) (0, 0)] ∧ grow l.length A ∧ l.length ≤ cap
def OwnSl (v : Value) (l : List Str) (h : Hp) : Prop := ∃ A cap, v = .slice A l.length cap ∧ h = [.row A l.length cap 9 1 (SV l) (0, 0)] ∧ grow l.length A ∧ l.length ≤ cap
theorem bs_own {R : Rd} {h : Hp} (i : Nat) {A : Option Addr} {cap : Nat} {l : Str} (hi : h[i]? = some (.row A l.length cap 5 1 (BV l) (0, 0))) (hg : grow l.length A) (hc : l.length ≤ cap) : Bs (RH R h) (.slice A l.length cap) l :=
  ⟨A, cap, rfl, hc, SlR.own i hi (by rw [BV_length, Nat.mul_one]) hg⟩
theorem ss_own {R : Rd} {h : Hp} (i : Nat) {A : Option Addr} {cap : Nat} {l : List Str} (hi : h[i]? = some (.row A l.length cap 9 1 (SV l) (0, 0))) (hg : grow l.length A) (hc : l.length ≤ cap) : Ss (RH R h) (.slice A l.length cap) l :=
  ⟨A, cap, rfl, hc, SlR.own i hi (by rw [SV_length, Nat.mul_one]) hg⟩
theorem Bs.nil (R : Rd) : Bs R (.slice .none 0 0) [] := ⟨.none, 0, rfl, Nat.le_refl _, BsR.nilv R⟩
theorem Ent.pick (is : List Nat) {h hs : Hp} (hp : pickK is h fun a _ => a = hs) : Ent h hs := by
  obtain ⟨a, rest, perm, e⟩ := pickK_sound _ _ _ hp
  subst e
  exact (Ent.perm perm).trans (Ent.drop a rest)

theorem CloneB_ok (R : Rd) (x : Str) (v : Value) (hx : x.length ≤ 100000000000) (hs : Bs R v x) : Fn Tryd.prog 45 [v] [] R (fun v h => OwnBl v x h) := by
  obtain ⟨A, cap, rfl, hc, hs⟩ := hs
  refine Fn.post (CloneB_ok0 R x A cap hx hs) ?_
  rintro _ _ w ⟨A', cap', rfl, rfl, hg⟩ o
  exact ⟨A', cap', rfl, rfl, hg, (row_cap o 0 rfl).1⟩
theorem CloneS_ok0 (R : Rd) (x : List Str) (A : Option Addr) (cap : Nat) (hx : x.length ≤ 1000000000) (hs : SsR R (.slice A x.length cap) x) :
    Fn Tryd.prog 44 [.slice A x.length cap] [] R (fun v h => ∃ A' cap', v = .slice A' x.length cap' ∧ h = [.row A' x.length cap' 9 1 (SV x) (0, 0)] ∧ grow x.length A') := by
  have hML := maxLen_eq
  refine fn_of_vc mixed tabOk Tryd.func44 rfl (by kernel_rfl) (Nat.le_of_ble_eq_true rfl) ?_
  cases A with
  | none =>
    repeat (first | (refine ⟨fun h => ?_, fun h => ?_⟩; rotate_left 1; (focus (exfalso; (first | (with_reducible (cases h; done)) | (revert h; simp; done) | (revert h; simp; omega) | (revert h; simp [*]; done)))); clear h) | (refine ⟨fun h => ?_, fun h => ?_⟩; (focus (exfalso; (first | (with_reducible (cases h; done)) | (revert h; simp; done) | (revert h; simp; omega) | (revert h; simp [*]; done)))); clear h))
    have h0 : x = [] := by
      cases x with
      | nil => rfl
      | cons b x =>
        obtain ⟨a, ha, _⟩ := hs.at_ (i := 0) (s := b) rfl
        cases ha
    subst h0
    exact ⟨_, Ent.nilrow [] 9 1, .none, 0, rfl, rfl, .inl rfl⟩
  | some a =>
    repeat (first | (refine ⟨fun h => ?_, fun h => ?_⟩; rotate_left 1; (focus (exfalso; (first | (with_reducible (cases h; done)) | (revert h; simp; done) | (revert h; simp; omega) | (revert h; simp [*]; done)))); clear h) | (refine ⟨fun h => ?_, fun h => ?_⟩; (focus (exfalso; (first | (with_reducible (cases h; done)) | (revert h; simp; done) | (revert h; simp; omega) | (revert h; simp [*]; done)))); clear h))
    refine ⟨rfl, fun g1 => ?_⟩
    refine ⟨SV x, by rw [SV_length]; exact (Nat.mul_one _).symm, (SsR.rh hs _).src, SV_one _, by show (_ + _) * 16 ≤ _; omega, by omega, .inr ⟨0, rfl, rfl, rfl, rfl, rfl, rfl, fun A' cap' hg' => ?_⟩⟩
    rw [Nat.zero_add] at hg'
    refine ⟨_, Ent.refl _, A', cap', ?_, ?_, hg'⟩
    · show Value.slice A' (0 + x.length) cap' = _; rw [Nat.zero_add]
    · show [HA.row A' (0 + x.length) cap' 9 1 ([] ++ SV x) (0, 0)] = _; rw [Nat.zero_add, List.nil_append]
theorem CloneS_ok (R : Rd) (x : List Str) (v : Value) (hx : x.length ≤ 1000000000) (hs : Ss R v x) : Fn Tryd.prog 44 [v] [] R (fun v h => OwnSl v x h) := by
  obtain ⟨A, cap, rfl, hc, hs⟩ := hs
  refine Fn.post (CloneS_ok0 R x A cap hx hs) ?_
  rintro _ _ w ⟨A', cap', rfl, rfl, hg⟩ o
  exact ⟨A', cap', rfl, rfl, hg, (row_cap o 0 rfl).1⟩

theorem Ent.shrink {A : Option Addr} {n cap : Nat} {e : TypeId} {sz : Nat} {xs : List Value} {fz : Nat × Nat} : Ent [.row A n cap e sz xs fz] [.row A 0 cap e sz [] fz] := fun w o => by
  refine ⟨⟨fun x hx => ?_, by simpa [idsOf, HA.ids] using o.nd⟩, fun g hg => by simpa [idsOf, HA.ids] using hg⟩
  rw [List.mem_singleton.1 hx]
  have h := o.all _ (List.mem_singleton.2 rfl)
  obtain ⟨h1, h2, h3, h4, h5⟩ := h
  refine ⟨by simp, Nat.zero_le _, h3, (fun _ h => by cases h), ?_⟩
  cases A with
  | none => exact h5
  | some a =>
    obtain ⟨a1, a2, rest, a3, a4, a5⟩ := h5
    exact ⟨a1, a2, xs ++ rest, a3, a4, a5⟩

set_option maxRecDepth 100000 in
theorem Grow_ok (R : Rd) (n : Nat) (hn : n ≤ 100000000000) : Fn Tryd.prog 74 [.slice .none 0 0, .int .i64 n] [] R
    (fun v h => ∃ A cap, v = .slice A 0 cap ∧ h = [.row A 0 cap 5 1 [] (0, 0)]) := by
  have hML := maxLen_eq
  refine fn_of_vc mixed tabOk Tryd.func74 rfl (by kernel_rfl) (Nat.le_of_ble_eq_true rfl) ?_
  refine ⟨fun h => absurd (of_decide_eq_true h) (by omega), fun h => ?_⟩
  clear h
  intro z1 hz1
  obtain rfl : z1 = 0 := by rw [hz1, IntKind.wrap_i64]; rfl
  (intro z hz; obtain rfl : z = ((n : Nat) : Int) := (by first | (rw [IntKind.wrap_i64] at hz; omega) | (rw [IntKind.wrap_u64] at hz; omega) | omega); clear hz)
  by_cases h0 : n = 0
  · subst h0
    refine ⟨fun h => absurd (of_decide_eq_true h) (by omega), fun h => ?_⟩
    exact ⟨_, Ent.nilrow [] 5 1, .none, 0, rfl, rfl⟩
  refine ⟨fun h => ?_, fun h => absurd (of_decide_eq_false h) (by omega)⟩
  clear h
  refine ⟨0, 0, rfl, rfl, by omega, by omega, ?_⟩
  refine ⟨rfl, rfl, rfl, n, rfl, by omega, by show n * 1 ≤ _; omega, by omega, fun A cap hg => ?_⟩
  refine ⟨0, 0, rfl, rfl, by omega, by omega, ?_⟩
  refine ⟨_, Ent.shrink, A, cap, ?_, rfl⟩
  show Value.slice (sliceBase A cap 0 1) 0 cap = _
  rw [sliceBase_zero]

/-- Slices of bytes, in a slice. -/
def CatR (R : Rd) (v : Value) (l : List Str) : Prop := ∃ cs : List Value, SlR R 1 v l.length cs ∧ cs.length = l.length ∧ ∀ (i : Nat) (x : Str) (c : Value), l[i]? = some x → cs[i]? = some c → BsR R c x
theorem CatR.rh {R : Rd} {v : Value} {l : List Str} (h : CatR R v l) (hp : Hp) : CatR (RH R hp) v l := by
  obtain ⟨cs, h1, h2, h3⟩ := h
  exact ⟨cs, h1.rh hp, h2, fun i x c hx hc => (h3 i x c hx hc).rh hp⟩
theorem cat_takeS {l : List Str} {i : Nat} {x : Str} (h : l[i]? = some x) : cat (l.take (i + 1)) = cat (l.take i) ++ x := by
  rw [List.take_add_one, h]; exact cat_snoc _ _
theorem cat_take_leS (l : List Str) (i : Nat) : (cat (l.take i)).length ≤ (cat l).length := by
  have h : cat l = cat (l.take i) ++ cat (l.drop i) := by
    show l.flatten = (l.take i).flatten ++ (l.drop i).flatten
    rw [← List.flatten_append, List.take_append_drop]
  rw [h, List.length_append]; omega
set_option maxRecDepth 100000 in
set_option maxHeartbeats 2000000 in
theorem Concat_ok0 (R : Rd) (l : List Str) (v : Value) (hl : (cat l).length ≤ 100000000000) (hn : l.length ≤ 1000000000) (hs : CatR R v l) : Fn Tryd.prog 57 [v] [] R
    (fun v h => ∃ A cap, v = .slice A (cat l).length cap ∧ h = [.row A (cat l).length cap 5 1 (BV (cat l)) (0, 0)] ∧ grow (cat l).length A) := by
  have hML := maxLen_eq
  obtain ⟨cs, hs, hcl, hb⟩ := hs
  obtain ⟨A0, cap0, rfl⟩ := hs.slice
  obtain ⟨hxl, B, c2, hB, hcell⟩ := hs
  cases hB
  have get : ∀ i, i < l.length → ∃ x A n cap, l[i]? = some x ∧ n = x.length ∧ BsR R (.slice A n cap) x ∧ ∃ a, A0 = some a ∧ R (addA a (Int.toNat (i : Int) * 1)) (.slice A n cap) := fun i hi => by
    have h1 : l[i]? = some (l[i]'hi) := List.getElem?_eq_getElem hi
    have h2 : cs[i]? = some (cs[i]'(by omega)) := List.getElem?_eq_getElem (by omega)
    have h3 := hb i _ _ h1 h2
    obtain ⟨A, cap, e⟩ := h3.form
    obtain ⟨a, ha, hr⟩ := hcell i _ h2
    rw [e] at h3 hr
    refine ⟨_, A, _, cap, h1, rfl, h3, a, ha, ?_⟩
    rw [toNat1, ← addA_eq]; exact hr
  refine fn_of_vc mixed tabOk Tryd.func57 rfl (by kernel_rfl) (Nat.le_of_ble_eq_true rfl) ?_
  refine ⟨[none, none, none, some 3, none, some 5, none, none, none, none, none, some 11, some 12, some 13, some 14, some 15, some 16, some 17, some 18, some 19, some 20, some 21, some 22], [3, 11], Nat, fun i => i ≤ l.length, fun i => [.int .i64 ((cat (l.take i)).length : Nat), .int .i64 i], fun _ => [], fun i => l.length - i, 0, Nat.zero_le _, ⟨rfl, rfl, trivial⟩, Ent.refl _, ?_⟩
  intro i hi js
  refine ⟨fun hb => ?_, fun hb => ?_⟩
  · replace hb := of_decide_eq_true hb
    have hlt : i < l.length := by omega
    obtain ⟨x, A, n, cap, hx, rfl, hbx, a, rfl, hr⟩ := get i hlt
    have hle := cat_take_leS l (i + 1)
    rw [cat_takeS hx] at hle
    refine ⟨by omega, by omega, a, rfl, _, .inl hr, ?_⟩
    rw [List.length_append] at hle
    (intro z hz; obtain rfl : z = (((cat (l.take i)).length + x.length : Nat) : Int) := (by first | (rw [IntKind.wrap_i64] at hz; omega) | (rw [IntKind.wrap_u64] at hz; omega) | omega); clear hz)
    repeat (first | (refine ⟨fun h => ?_, fun h => ?_⟩; rotate_left 1; (focus (exfalso; (first | (with_reducible (cases h; done)) | (revert h; simp; done) | (revert h; simp; omega) | (revert h; simp [*]; done)))); clear h) | (refine ⟨fun h => ?_, fun h => ?_⟩; (focus (exfalso; (first | (with_reducible (cases h; done)) | (revert h; simp; done) | (revert h; simp; omega) | (revert h; simp [*]; done)))); clear h))
    (intro z hz; obtain rfl : z = ((i + 1 : Nat) : Int) := (by first | (rw [IntKind.wrap_i64] at hz; omega) | (rw [IntKind.wrap_u64] at hz; omega) | omega); clear hz)
    exact ⟨rfl, i + 1, hlt, by show l.length - (i + 1) < l.length - i; omega, ⟨by rw [cat_takeS hx, List.length_append]; rfl, rfl, trivial⟩, Ent.refl _, rfl⟩
  · replace hb := of_decide_eq_false hb
    obtain rfl : i = l.length := by omega
    rw [List.take_length]
    refine ⟨[], _, Grow_ok _ (cat l).length hl, ?_⟩
    rintro _ _ ⟨A1, cap1, rfl, rfl⟩
    refine ⟨[none, none, none, none, none, none, some 6, none, some 8, none, none, none, none, none, none, none, none, none, none, none, none, none, none, none, none, none, none, some 27, some 28, some 29, some 30, some 31, some 32, some 33, some 34], [6, 27], Nat × Option Addr × Nat × Nat × List Value, fun ⟨i, A, n, cap, xs⟩ => i ≤ l.length ∧ n = (cat (l.take i)).length ∧ xs = BV (cat (l.take i)) ∧ grow n A, fun ⟨i, A, n, cap, xs⟩ => [.slice A n cap, .int .i64 i],
      fun ⟨i, A, n, cap, xs⟩ => [.row A n cap 5 1 xs (0, 0)], fun ⟨i, _⟩ => l.length - i, (0, A1, 0, cap1, []), ⟨Nat.zero_le _, rfl, rfl, .inl rfl⟩, ⟨rfl, rfl, trivial⟩, Ent.refl _, ?_⟩
    rintro ⟨i, A2, n2, cap2, xs2⟩ ⟨hi, hn2, hx2, hg2⟩ js
    have hi : i ≤ l.length := hi
    refine ⟨fun hb => ?_, fun hb => ?_⟩
    · replace hb := of_decide_eq_true hb
      have hlt : i < l.length := by omega
      obtain ⟨x, A, n, cap, hx, rfl, hbx, a, rfl, hr⟩ := get i hlt
      have hle := cat_take_leS l (i + 1)
      rw [cat_takeS hx, List.length_append] at hle
      refine ⟨by omega, by omega, a, rfl, _, .inl hr, ?_⟩
      refine ⟨BV x, by rw [BV_length]; exact (Nat.mul_one _).symm, (hbx.rh _).src, BV_one _, by show (_ + _) * 1 ≤ _; omega, by omega, .inr ⟨0, rfl, rfl, rfl, rfl, rfl, rfl, fun A3 cap3 hg3 => ?_⟩⟩
      (intro z hz; obtain rfl : z = ((i + 1 : Nat) : Int) := (by first | (rw [IntKind.wrap_i64] at hz; omega) | (rw [IntKind.wrap_u64] at hz; omega) | omega); clear hz)
      exact ⟨rfl, (i + 1, A3, n2 + x.length, cap3, xs2 ++ BV x), ⟨hlt, by rw [cat_takeS hx, List.length_append, hn2], by rw [cat_takeS hx, BV_append, hx2], hg3⟩, by show l.length - (i + 1) < l.length - i; omega, ⟨rfl, rfl, trivial⟩, Ent.refl _, rfl⟩
    · replace hb := of_decide_eq_false hb
      obtain rfl : i = l.length := by omega
      rw [List.take_length] at hn2 hx2
      subst hn2 hx2
      exact ⟨_, Ent.refl _, A2, cap2, rfl, rfl, hg2⟩
theorem Concat_ok (R : Rd) (l : List Str) (v : Value) (hl : (cat l).length ≤ 100000000000) (hn : l.length ≤ 1000000000) (hs : CatR R v l) : Fn Tryd.prog 57 [v] [] R (fun v h => OwnBl v (cat l) h) := by
  refine Fn.post (Concat_ok0 R l v hl hn hs) ?_
  rintro _ _ w ⟨A', cap', rfl, rfl, hg⟩ o
  exact ⟨A', cap', rfl, rfl, hg, (row_cap o 0 rfl).1⟩

/-! ### the encoding -/
theorem limD_le2 (m : Int) (d : Str) (s : RS) (hm : m ≤ 1000000) : cV m d s ≤ 1000000 := by have := cV_le m d s; omega
end Go.Proofs.YtgnmbgbiajgpeaaDoor
