/-
  Values of the wire, and how the writer encodes them: contracts of put, small and encoded.
-/
import Derived.Test.YtknilabilihlnaaWrg
import Derived.Test.YtknilabilihlnaaVcl
namespace Go.Proofs.Ytknilabilihlnaa
open Go Go.RowKit

structure Item where
  k : Int
  u : Nat
  n : Int
  b : Bool
  s : List UInt8
  m : Int

def Item.cells (x : Item) : List Value := [.int .i64 x.k, .int .u64 x.u, .int .i64 x.n, .bool x.b, .string ⟨⟨x.s⟩⟩, .int .i64 x.m]
structure Item.Ok (x : Item) : Prop where
  u : x.u ≤ 18446744073709551615
  n1 : -9223372036854775808 ≤ x.n
  n2 : x.n ≤ 9223372036854775807
  k1 : -9223372036854775808 ≤ x.k
  k2 : x.k ≤ 9223372036854775807
  m1 : -9223372036854775808 ≤ x.m
  m2 : x.m ≤ 9223372036854775807
  s : x.s.length ≤ 9223372036854775807

abbrev ItemShp : Shp := .fc 0 1 (.int .i64) (.fc 1 1 (.int .u64) (.fc 2 1 (.int .i64) (.fc 3 1 .bool (.fc 4 1 .str (.fc 5 1 (.int .i64) (.f0 6))))))
theorem Item.of {R : Rd} {xs : List Value} (hs : Seen R ItemShp xs) : ∃ x : Item, x.Ok ∧ xs = x.cells := by
  obtain ⟨⟨k, hk, wk⟩, ⟨u, hu, wu⟩, ⟨n, hn, wn⟩, ⟨b, hb⟩, ⟨s, hs', ws⟩, ⟨m, hm, wm⟩, hl⟩ := hs
  match xs, hl with
  | [x0, x1, x2, x3, x4, x5], _ =>
    simp only [List.drop_zero, List.drop_succ_cons, List.take_succ_cons, List.take_zero, List.cons.injEq, and_true] at hk hu hn hb hs' hm
    subst hk hu hn hb hs' hm
    have wk' : -9223372036854775808 ≤ k ∧ k ≤ 9223372036854775807 := by simpa [Lit.wf, IntKind.has, IntKind.min, IntKind.max, IntKind.bits, IntKind.signed] using wk
    have wn' : -9223372036854775808 ≤ n ∧ n ≤ 9223372036854775807 := by simpa [Lit.wf, IntKind.has, IntKind.min, IntKind.max, IntKind.bits, IntKind.signed] using wn
    have wm' : -9223372036854775808 ≤ m ∧ m ≤ 9223372036854775807 := by simpa [Lit.wf, IntKind.has, IntKind.min, IntKind.max, IntKind.bits, IntKind.signed] using wm
    have wu' : 0 ≤ u ∧ u ≤ 18446744073709551615 := by simpa [Lit.wf, IntKind.has, IntKind.min, IntKind.max, IntKind.bits, IntKind.signed] using wu
    obtain ⟨⟨s⟩⟩ := s
    have ws' : s.length ≤ maxLen := ws
    rw [maxLen_eq] at ws'
    refine ⟨⟨k, u.toNat, n, b, s, m⟩, ⟨?_, wn'.1, wn'.2, wk'.1, wk'.2, wm'.1, wm'.2, ws'⟩, ?_⟩
    · show u.toNat ≤ _; omega
    · show _ = [_, Value.int .u64 (u.toNat : Nat), _, _, _, _]
      rw [Int.toNat_of_nonneg wu'.1]

/-- Values that may be read. -/
def ItemsR (R : Rd) (v : Value) (l : List Item) : Prop := SlR R 6 v l.length (l.flatMap Item.cells)
theorem SeenV.items {R : Rd} {v : Value} (h : SeenV R (.sl 6 ItemShp) v) : ∃ l : List Item, (∀ x ∈ l, x.Ok) ∧ l.length ≤ maxLen ∧ ItemsR R v l :=
  h.slice Item.cells Item.Ok (fun _ _ => rfl) fun _ _ hs => Item.of hs

theorem flat_at {α : Type} {c : α → List Value} {sz : Nat} : ∀ {l : List α}, (∀ x ∈ l, (c x).length = sz) → ∀ {i j : Nat} {x : α} {u : Value}, l[i]? = some x → (c x)[j]? = some u → (l.flatMap c)[i * sz + j]? = some u
  | [], _, i, j, x, u, h, _ => by simp at h
  | y :: l, hl, 0, j, x, u, h, hu => by
    simp at h
    subst h
    have := hl y (by simp)
    have hj := (List.getElem?_eq_some_iff.1 hu).1
    rw [List.flatMap_cons, List.getElem?_append_left (by omega), Nat.zero_mul, Nat.zero_add]
    exact hu
  | y :: l, hl, i + 1, j, x, u, h, hu => by
    have := hl y (by simp)
    have hj := (List.getElem?_eq_some_iff.1 hu).1
    rw [List.flatMap_cons, List.getElem?_append_right (by rw [Nat.add_mul]; omega), this, show (i + 1) * sz + j - sz = i * sz + j by rw [Nat.add_mul]; omega]
    exact flat_at (fun z hz => hl z (by simp [hz])) (by simpa using h) hu

theorem ItemsR.form {R : Rd} {v : Value} {l : List Item} (h : ItemsR R v l) : ∃ A cap, v = .slice A l.length cap := by
  obtain ⟨_, A, cap, rfl, _⟩ := h
  exact ⟨A, cap, rfl⟩
theorem ItemsR.at_ {R : Rd} {A : Option Addr} {n cap : Nat} {l : List Item} (h : ItemsR R (.slice A n cap) l) {i : Nat} {x : Item} (hx : l[i]? = some x) : ∃ a, A = some a ∧ ∀ j u, x.cells[j]? = some u → R (a.add (i * 6 + j)) u := by
  obtain ⟨_, A', cap', hv, hr⟩ := h
  cases hv
  obtain ⟨a, rfl, _⟩ := hr (i * 6 + 0) _ (flat_at (sz := 6) (c := Item.cells) (fun _ _ => rfl) hx (j := 0) (u := .int .i64 x.k) rfl)
  refine ⟨a, rfl, fun j u hu => ?_⟩
  obtain ⟨a', ha, hR⟩ := hr (i * 6 + j) u (flat_at (sz := 6) (c := Item.cells) (fun _ _ => rfl) hx hu)
  cases ha
  exact hR

theorem fld {R : Rd} {a : Addr} {i sz j : Nat} {v : Value} (h : R (a.add (i * sz + j)) v) : R (addA (addA a (Int.toNat (i : Int) * sz)) j) v := by
  rw [show Int.toNat (i : Int) * sz = i * sz by simp, ← addA_eq, ← addA_eq, add_add]
  exact h
theorem rdn {R : Rd} {a : Addr} {i sz : Nat} {vs : List Value} (h : ∀ j u, vs[j]? = some u → R (a.add (i * sz + j)) u) : ∀ j u, vs[j]? = some u → R ((addA a (Int.toNat (i : Int) * sz)).add j) u := by
  intro j u hu
  rw [show Int.toNat (i : Int) * sz = i * sz by simp, ← addA_eq, add_add]
  exact h j u hu

/-- What one value is encoded as. -/
def enc1 (x : Item) : Option (List UInt8) :=
  if x.k = 1 then some (num x.u) else if x.k = 2 then some (num (zig x.n).toNat) else if x.k = 3 then some [if x.b then 1 else 0]
  else if x.k = 4 ∨ x.k = 5 then some (num x.s.length ++ x.s) else if x.k = 6 then (if x.s.length = 32 then some x.s else none)
  else if x.k = 7 then (if x.n < 0 then none else some (num x.n.toNat)) else some []
def put1 (st : List UInt8 × Int) (x : Item) : List UInt8 × Int := if st.2 = 0 then (match enc1 x with | some y => (st.1 ++ y, 0) | none => (st.1, 1)) else st
def encS (l : List Item) : List UInt8 × Int := l.foldl put1 ([], 0)

theorem put_some {x : Item} {y : List UInt8} (h : enc1 x = some y) (bs : List UInt8) (e : Int) : put1 (bs, e) x = (if e = 0 then bs ++ y else bs, e) := by
  unfold put1
  by_cases he : e = 0 <;> simp [he, h]
theorem put_none {x : Item} (h : enc1 x = none) (bs : List UInt8) (e : Int) : put1 (bs, e) x = (bs, if e = 0 then 1 else e) := by
  unfold put1
  by_cases he : e = 0 <;> simp [he, h]

theorem enc1_len {x : Item} (hx : x.Ok) {y : List UInt8} (h : enc1 x = some y) : y.length ≤ x.s.length + 10 := by
  have h1 := usize_le10 hx.u
  have h2 := usize_le10 (n := (zig x.n).toNat) (by have := zig_le hx.n1 hx.n2; omega)
  have h3 := usize_le10 (n := x.n.toNat) (by have := hx.n2; omega)
  have h4 := usize_le10 (n := x.s.length) (by have := hx.s; omega)
  unfold enc1 at h
  split at h
  · cases h; rw [length_num]; omega
  split at h
  · cases h; rw [length_num]; omega
  split at h
  · cases h; simp
  split at h
  · cases h; rw [List.length_append, length_num]; omega
  split at h
  · split at h
    · cases h; omega
    · cases h
  split at h
  · split at h
    · cases h
    · cases h; rw [length_num]; omega
  · cases h; simp

theorem put1_len {x : Item} (hx : x.Ok) (st : List UInt8 × Int) : (put1 st x).1.length ≤ st.1.length + x.s.length + 10 := by
  obtain ⟨bs, e⟩ := st
  cases h : enc1 x with
  | none => rw [put_none h]; show bs.length ≤ bs.length + _ + _; omega
  | some y =>
    have := enc1_len hx h
    rw [put_some h]
    show List.length (if e = 0 then bs ++ y else bs) ≤ bs.length + _ + _
    split
    · rw [List.length_append]; omega
    · omega

set_option maxRecDepth 100000 in
set_option maxHeartbeats 8000000 in
theorem put_ok (R : Rd) (g : Nat) (bs : List UInt8) (e : Int) (h : Hp) (x : Item) (hx : x.Ok) (hs : x.s.length ≤ 1000000) (hb : bs.length ≤ 1000000000) (hw : IsW g bs e h) :
    Fn Try.prog 39 [.pointer (some ⟨g, 0, .none⟩), .agg ⟨x.cells⟩] h R (fun _ h' => IsW g (put1 (bs, e) x).1 (put1 (bs, e) x).2 h') := by
  obtain ⟨A, k, cap, xs, rfl, hk, hxs, hg⟩ := hw
  obtain ⟨xk, xu, xn, xb, xs', xm⟩ := x
  have hxs' : xs'.length ≤ 1000000 := hs
  have hn1 : -9223372036854775808 ≤ xn := hx.n1
  have hn2 : xn ≤ 9223372036854775807 := hx.n2
  have hu : xu ≤ 18446744073709551615 := hx.u
  refine fn_of_vc mixed tabOk Try.func39 rfl (by kernel_rfl) (Nat.le_of_ble_eq_true rfl) ?_
  intro g2
  refine ⟨_, ld 2 rfl rfl, ?_⟩
  refine ⟨fun hb => ?_, fun hb => ?_⟩
  · replace hb := of_decide_eq_true hb
    subst hb
    refine ⟨_, ld 2 rfl rfl, ?_⟩
    refine ⟨[0, 0], _, WUint_ok _ g bs e _ xu hu (by omega) ⟨A, k, cap, xs, rfl, hk, hxs, hg⟩, ?_⟩
    rintro v' h' hw'
    refine ⟨_, Ent.dropr [_] _, ?_⟩
    rw [put_some (y := num xu) rfl]; exact hw'
  replace hb := of_decide_eq_false hb
  have n1 : ¬ xk = 1 := hb
  clear hb
  refine ⟨fun hb => ?_, fun hb => ?_⟩
  · replace hb := of_decide_eq_true hb
    subst hb
    refine ⟨_, ld 2 rfl rfl, ?_⟩
    refine ⟨[0, 0], _, WInt_ok _ g bs e _ xn hn1 hn2 (by omega) ⟨A, k, cap, xs, rfl, hk, hxs, hg⟩, ?_⟩
    rintro v' h' hw'
    refine ⟨_, Ent.dropr [_] _, ?_⟩
    rw [put_some (y := num (zig xn).toNat) rfl]; exact hw'
  replace hb := of_decide_eq_false hb
  have n2 : ¬ xk = 2 := hb
  clear hb
  refine ⟨fun hb => ?_, fun hb => ?_⟩
  · replace hb := of_decide_eq_true hb
    subst hb
    refine ⟨_, ld 2 rfl rfl, ?_⟩
    refine ⟨[0, 0], _, WBool_ok _ g bs e _ xb (by omega) ⟨A, k, cap, xs, rfl, hk, hxs, hg⟩, ?_⟩
    rintro v' h' hw'
    refine ⟨_, Ent.dropr [_] _, ?_⟩
    rw [put_some (y := [if xb then 1 else 0]) rfl]; exact hw'
  replace hb := of_decide_eq_false hb
  have n3 : ¬ xk = 3 := hb
  clear hb
  refine ⟨fun hb => ?_, fun hb => ?_⟩
  · replace hb := of_decide_eq_true hb
    subst hb
    refine ⟨_, ld 2 rfl rfl, ?_⟩
    refine ⟨by rw [maxLen_eq]; show xs'.length ≤ _; omega, fun g3 cap3 => ?_⟩
    refine ⟨[0, 0], _, WBytes_ok _ g bs e _ _ xs' (by omega) ⟨A, k, cap, xs, rfl, hk, hxs, hg⟩ (BsR.own 1 rfl rfl rfl (.inr ⟨_, rfl⟩)), ?_⟩
    rintro v' h' hw'
    refine ⟨_, Ent.dropr [_, _] _, ?_⟩
    rw [put_some (y := num xs'.length ++ xs') rfl, ← List.append_assoc]; exact hw'
  replace hb := of_decide_eq_false hb
  have n4 : ¬ xk = 4 := hb
  clear hb
  refine ⟨fun hb => ?_, fun hb => ?_⟩
  · replace hb := of_decide_eq_true hb
    subst hb
    refine ⟨_, ld 2 rfl rfl, ?_⟩
    refine ⟨[0, 0], _, WText_ok _ g bs e _ xs' (by omega) ⟨A, k, cap, xs, rfl, hk, hxs, hg⟩, ?_⟩
    rintro v' h' hw'
    refine ⟨_, Ent.dropr [_] _, ?_⟩
    rw [put_some (y := num xs'.length ++ xs') rfl, ← List.append_assoc]; exact hw'
  replace hb := of_decide_eq_false hb
  have n5 : ¬ xk = 5 := hb
  clear hb
  refine ⟨fun hb => ?_, fun hb => ?_⟩
  · replace hb := of_decide_eq_true hb
    subst hb
    refine ⟨_, ld 2 rfl rfl, ?_⟩
    refine ⟨[0, 0], _, WSum_ok _ g bs e _ xs' (by omega) ⟨A, k, cap, xs, rfl, hk, hxs, hg⟩, ?_⟩
    rintro v' h' hw'
    refine ⟨_, Ent.dropr [_] _, ?_⟩
    by_cases h32 : xs'.length = 32
    · rw [put_some (y := xs') (by simp [enc1, h32])]
      simpa [h32] using hw'
    · rw [put_none (by simp [enc1, h32])]
      simpa [h32] using hw'
  replace hb := of_decide_eq_false hb
  have n6 : ¬ xk = 6 := hb
  clear hb
  refine ⟨fun hb => ?_, fun hb => ?_⟩
  · replace hb := of_decide_eq_true hb
    subst hb
    refine ⟨_, ld 2 rfl rfl, ?_⟩
    refine ⟨[0, 0], _, WCount_ok _ g bs e _ xn hn2 (by omega) ⟨A, k, cap, xs, rfl, hk, hxs, hg⟩, ?_⟩
    rintro v' h' hw'
    refine ⟨_, Ent.dropr [_] _, ?_⟩
    by_cases hneg : xn < 0
    · rw [put_none (by simp [enc1, hneg])]
      simpa [hneg, show ¬ 0 ≤ xn by omega] using hw'
    · rw [put_some (y := num xn.toNat) (by simp [enc1, hneg])]
      simpa [hneg, show 0 ≤ xn by omega] using hw'
  replace hb := of_decide_eq_false hb
  have n7 : ¬ xk = 7 := hb
  clear hb
  refine ⟨_, Ent.drop [_, _] [_], ?_⟩
  rw [put_some (y := []) (by simp [enc1, n1, n2, n3, n4, n5, n6, n7])]
  show IsW g (if e = 0 then bs ++ [] else bs) e _
  rw [List.append_nil, ite_self]
  exact ⟨A, k, cap, xs, rfl, hk, hxs, hg⟩

def smallB (l : List Item) : Bool := l.all (fun x => decide (x.s.length ≤ 400)) && decide (l.length ≤ 40)

set_option maxRecDepth 100000 in
set_option maxHeartbeats 4000000 in
theorem small_ok (R : Rd) (v : Value) (l : List Item) (hl : l.length ≤ 9223372036854775807) (hs : ItemsR R v l) :
    Fn Try.prog 26 [v] [] R (fun v h => v = .bool (smallB l) ∧ h = []) := by
  obtain ⟨A0, cap0, rfl⟩ := hs.form
  refine fn_of_vc mixed tabOk Try.func26 rfl (by kernel_rfl) (Nat.le_of_ble_eq_true rfl) ?_
  refine ⟨[2, 3, 4, 5, 6, 7, 8, 9, 10, 11, 12, 13, 14, 15, 16], [2, 3], Nat, fun i => i ≤ l.length ∧ ∀ j x, j < i → l[j]? = some x → x.s.length ≤ 400, fun i => [.bool false, .int .i64 i], fun _ => [], fun i => l.length - i, 0, ⟨by omega, by simp⟩, ⟨rfl, rfl, trivial⟩, Ent.refl _, ?_⟩
  rintro i ⟨hi, hall⟩ js
  refine ⟨fun hb => ?_, fun hb => ?_⟩
  · replace hb := of_decide_eq_true hb
    have h1 : i < l.length := by omega
    obtain ⟨a, rfl, hRa⟩ := hs.at_ (List.getElem?_eq_getElem h1)
    have hget : l[i]? = some l[i] := List.getElem?_eq_getElem h1
    generalize l[i] = x at hRa hget
    refine ⟨by omega, by omega, a, rfl, ?_⟩
    refine ⟨_, ro (fld (hRa 4 _ rfl)), ?_⟩
    refine ⟨fun hb => ?_, fun hb => ?_⟩
    · replace hb := of_decide_eq_true hb
      have hb' : 400 < (x.s.length : Int) := hb
      refine ⟨_, Ent.refl _, ?_, rfl⟩
      show Value.bool false = _
      congr 1
      symm
      rw [smallB, Bool.and_eq_false_iff]
      left
      rw [List.all_eq_false]
      exact ⟨x, List.mem_of_getElem? hget, by simp; omega⟩
    · replace hb := of_decide_eq_false hb
      have hb' : ¬ 400 < (x.s.length : Int) := hb
      (intro z hz; obtain rfl := wr_i64 hz (by omega) (by omega); clear hz)
      refine ⟨rfl, i + 1, ⟨by omega, fun j y hj hy => ?_⟩, by show l.length - (i + 1) < l.length - i; omega, ⟨rfl, rfl, trivial⟩, Ent.refl _, rfl⟩
      by_cases hji : j = i
      · subst hji; rw [hget] at hy; cases hy; omega
      · exact hall j y (by omega) hy
  · replace hb := of_decide_eq_false hb
    have : i = l.length := by omega
    subst this
    refine ⟨_, Ent.refl _, ?_, rfl⟩
    show Value.bool (decide ((l.length : Int) ≤ 40)) = _
    have ha : l.all (fun x => decide (x.s.length ≤ 400)) = true := by
      rw [List.all_eq_true]
      intro x hx
      obtain ⟨j, hj⟩ := List.getElem?_of_mem hx
      exact decide_eq_true (hall j x (List.getElem?_eq_some_iff.1 hj).1 hj)
    rw [smallB, ha, Bool.true_and]
    congr 1
    simp only [decide_eq_decide]
    omega

theorem encS_take {l : List Item} {i : Nat} {x : Item} (h : l[i]? = some x) : encS (l.take (i + 1)) = put1 (encS (l.take i)) x := by
  rw [List.take_add_one, h]
  simp [encS]

set_option maxRecDepth 100000 in
set_option maxHeartbeats 4000000 in
theorem encoded_ok (R : Rd) (v : Value) (l : List Item) (hok : ∀ x ∈ l, x.Ok) (hsm : smallB l = true) (hs : ItemsR R v l) :
    Fn Try.prog 27 [v] [] R (fun v h => ∃ s, v = .tuple ⟨[s, .int .i64 (doneE (encS l).1 (encS l).2)]⟩ ∧ OwnB s (doneB (encS l).1 (encS l).2) h) := by
  obtain ⟨A0, cap0, rfl⟩ := hs.form
  rw [smallB, Bool.and_eq_true] at hsm
  have hl40 : l.length ≤ 40 := of_decide_eq_true hsm.2
  have h400 : ∀ x ∈ l, x.s.length ≤ 400 := fun x hx => of_decide_eq_true (List.all_eq_true.1 hsm.1 x hx)
  refine fn_of_vc mixed tabOk Try.func27 rfl (by kernel_rfl) (Nat.le_of_ble_eq_true rfl) ?_
  refine ⟨[], _, NewWriter_ok _, ?_⟩
  rintro v h' ⟨g, rfl, A, k, cap, xs, rfl, hk, hx, hg⟩
  refine ⟨[5, 7, 8, 9, 10, 11, 12, 13, 14, 15, 16, 17, 18], [5],
    Nat × Option Addr × Nat × Nat × List Value,
    fun ⟨i, A, k, cap, xs⟩ => i ≤ l.length ∧ (encS (l.take i)).1.length ≤ i * 410 ∧ k = (encS (l.take i)).1.length ∧ xs = BV (encS (l.take i)).1 ∧ grow k A,
    fun ⟨i, A, k, cap, xs⟩ => [.int .i64 i],
    fun ⟨i, A, k, cap, xs⟩ => [.blk g 68 [.slice A k cap, .int .i64 (encS (l.take i)).2], .row A k cap 5 1 xs (0, 0)],
    fun ⟨i, A, k, cap, xs⟩ => l.length - i, (0, A, k, cap, xs), ⟨by omega, by simp [encS], hk, hx, hg⟩, ⟨rfl, trivial⟩, Ent.refl _, ?_⟩
  clear hk hx hg
  rintro ⟨i, A, k, cap, xs⟩ ⟨hi, hlen, hk, hx, hg⟩ js
  refine ⟨fun hb => ?_, fun hb => ?_⟩
  · replace hb := of_decide_eq_true hb
    have h1 : i < l.length := by omega
    obtain ⟨a, rfl, hRa⟩ := hs.at_ (List.getElem?_eq_getElem h1)
    have hget : l[i]? = some l[i] := List.getElem?_eq_getElem h1
    have hmem : l[i] ∈ l := List.getElem_mem h1
    generalize l[i] = x at hRa hget hmem
    refine ⟨by omega, by omega, a, rfl, ?_⟩
    refine ⟨x.cells, rdn fun j u hu => ro (hRa j u hu), rfl, ?_⟩
    refine ⟨[0, 0], _, put_ok _ g (encS (l.take i)).1 (encS (l.take i)).2 _ x (hok x hmem) (by have := h400 x hmem; omega) (by omega) ⟨A, k, cap, xs, rfl, hk, hx, hg⟩, ?_⟩
    clear hk hx hg
    rintro v' h' hw'
    have hpl := put1_len (hok x hmem) (encS (l.take i))
    have := h400 x hmem
    rw [show ((encS (l.take i)).1, (encS (l.take i)).2) = encS (l.take i) from rfl, ← encS_take hget] at hw'
    rw [← encS_take hget] at hpl
    obtain ⟨A, k, cap, xs, rfl, hk, hx, hg⟩ := hw'
    (intro z hz; obtain rfl := wr_i64 hz (by omega) (by omega); clear hz)
    exact ⟨rfl, (i + 1, A, k, cap, xs), ⟨by omega, by omega, hk, hx, hg⟩, by show l.length - (i + 1) < l.length - i; omega, ⟨rfl, trivial⟩, Ent.refl _, rfl⟩
  · replace hb := of_decide_eq_false hb
    obtain rfl : i = l.length := by omega
    refine ⟨[0, 0], _, WDone_ok _ g (encS (l.take l.length)).1 (encS (l.take l.length)).2 _ ⟨A, k, cap, xs, rfl, hk, hx, hg⟩, ?_⟩
    clear hk hx hg
    rintro v h' ⟨s, hw, hs', rfl, rfl, -, hown⟩
    rw [List.take_length] at hown
    exact ⟨_, Ent.dropr _ _, _, by rw [List.take_length]; rfl, hown⟩

end Go.Proofs.Ytknilabilihlnaa
