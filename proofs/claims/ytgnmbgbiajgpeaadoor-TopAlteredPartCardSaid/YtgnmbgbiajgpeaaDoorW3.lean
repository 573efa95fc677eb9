/-
  Values of the wire, and how the writer encodes them: contracts of put, small and encoded.
-/
import Derived.Test.YtgnmbgbiajgpeaaDoorW2
import Derived.Test.YtgnmbgbiajgpeaaDoorV2
namespace Go.Proofs.YtgnmbgbiajgpeaaDoor
open Go Go.RowKit

structure Item where
  k : Int
  u : Nat
  n : Int
  b : Bool
  s : List UInt8
  m : Int

def Item.cells (x : Item) : List Value := [.int .i64 x.k, .int .u64 x.u, .int .i64 x.n, .bool x.b, .string ⟨⟨x.s⟩⟩, .int .i64 x.m]
structure Item.Ok (x : Item) : Prop where
  u : x.u ≤ 18446744073709551615
  n1 : -9223372036854775808 ≤ x.n
  n2 : x.n ≤ 9223372036854775807
  k1 : -9223372036854775808 ≤ x.k
  k2 : x.k ≤ 9223372036854775807
  m1 : -9223372036854775808 ≤ x.m
  m2 : x.m ≤ 9223372036854775807
  s : x.s.length ≤ 9223372036854775807

abbrev ItemShp : Shp := .fc 0 1 (.int .i64) (.fc 1 1 (.int .u64) (.fc 2 1 (.int .i64) (.fc 3 1 .bool (.fc 4 1 .str (.fc 5 1 (.int .i64) (.f0 6))))))
theorem Item.of {R : Rd} {xs : List Value} (hs : Seen R ItemShp xs) : ∃ x : Item, x.Ok ∧ xs = x.cells := by
  obtain ⟨⟨k, hk, wk⟩, ⟨u, hu, wu⟩, ⟨n, hn, wn⟩, ⟨b, hb⟩, ⟨s, hs', ws⟩, ⟨m, hm, wm⟩, hl⟩ := hs
  match xs, hl with
  | [x0, x1, x2, x3, x4, x5], _ =>
    simp only [List.drop_zero, List.drop_succ_cons, List.take_succ_cons, List.take_zero, List.cons.injEq, and_true] at hk hu hn hb hs' hm
    subst hk hu hn hb hs' hm
    have wk' : -9223372036854775808 ≤ k ∧ k ≤ 9223372036854775807 := by simpa [Lit.wf, IntKind.has, IntKind.min, IntKind.max, IntKind.bits, IntKind.signed] using wk
    have wn' : -9223372036854775808 ≤ n ∧ n ≤ 9223372036854775807 := by simpa [Lit.wf, IntKind.has, IntKind.min, IntKind.max, IntKind.bits, IntKind.signed] using wn
    have wm' : -9223372036854775808 ≤ m ∧ m ≤ 9223372036854775807 := by simpa [Lit.wf, IntKind.has, IntKind.min, IntKind.max, IntKind.bits, IntKind.signed] using wm
    have wu' : 0 ≤ u ∧ u ≤ 18446744073709551615 := by simpa [Lit.wf, IntKind.has, IntKind.min, IntKind.max, IntKind.bits, IntKind.signed] using wu
    obtain ⟨⟨s⟩⟩ := s
    have ws' : s.length ≤ maxLen := ws
    rw [maxLen_eq] at ws'
    refine ⟨⟨k, u.toNat, n, b, s, m⟩, ⟨?_, wn'.1, wn'.2, wk'.1, wk'.2, wm'.1, wm'.2, ws'⟩, ?_⟩
    · show u.toNat ≤ _; omega
    · show _ = [_, Value.int .u64 (u.toNat : Nat), _, _, _, _]
      rw [Int.toNat_of_nonneg wu'.1]

/-- Values that may be read. -/
def ItemsR (R : Rd) (v : Value) (l : List Item) : Prop := SlR R 6 v l.length (l.flatMap Item.cells)
theorem SeenV.items {R : Rd} {v : Value} (h : SeenV R (.sl 6 ItemShp) v) : ∃ l : List Item, (∀ x ∈ l, x.Ok) ∧ l.length ≤ maxLen ∧ ItemsR R v l :=
  h.slice Item.cells Item.Ok (fun _ _ => rfl) fun _ _ hs => Item.of hs

theorem flat_at {α : Type} {c : α → List Value} {sz : Nat} : ∀ {l : List α}, (∀ x ∈ l, (c x).length = sz) → ∀ {i j : Nat} {x : α} {u : Value}, l[i]? = some x → (c x)[j]? = some u → (l.flatMap c)[i * sz + j]? = some u
  | [], _, i, j, x, u, h, _ => by simp at h
  | y :: l, hl, 0, j, x, u, h, hu => by
    simp at h
    subst h
    have := hl y (by simp)
    have hj := (List.getElem?_eq_some_iff.1 hu).1
    rw [List.flatMap_cons, List.getElem?_append_left (by omega), Nat.zero_mul, Nat.zero_add]
    exact hu
  | y :: l, hl, i + 1, j, x, u, h, hu => by
    have := hl y (by simp)
    have hj := (List.getElem?_eq_some_iff.1 hu).1
    rw [List.flatMap_cons, List.getElem?_append_right (by rw [Nat.add_mul]; omega), this, show (i + 1) * sz + j - sz = i * sz + j by rw [Nat.add_mul]; omega]
    exact flat_at (fun z hz => hl z (by simp [hz])) (by simpa using h) hu

theorem ItemsR.form {R : Rd} {v : Value} {l : List Item} (h : ItemsR R v l) : ∃ A cap, v = .slice A l.length cap := by
  obtain ⟨_, A, cap, rfl, _⟩ := h
  exact ⟨A, cap, rfl⟩
theorem ItemsR.at_ {R : Rd} {A : Option Addr} {n cap : Nat} {l : List Item} (h : ItemsR R (.slice A n cap) l) {i : Nat} {x : Item} (hx : l[i]? = some x) : ∃ a, A = some a ∧ ∀ j u, x.cells[j]? = some u → R (a.add (i * 6 + j)) u := by
  obtain ⟨_, A', cap', hv, hr⟩ := h
  cases hv
  obtain ⟨a, rfl, _⟩ := hr (i * 6 + 0) _ (flat_at (sz := 6) (c := Item.cells) (fun _ _ => rfl) hx (j := 0) (u := .int .i64 x.k) rfl)
  refine ⟨a, rfl, fun j u hu => ?_⟩
  obtain ⟨a', ha, hR⟩ := hr (i * 6 + j) u (flat_at (sz := 6) (c := Item.cells) (fun _ _ => rfl) hx hu)
  cases ha
  exact hR

theorem fld {R : Rd} {a : Addr} {i sz j : Nat} {v : Value} (h : R (a.add (i * sz + j)) v) : R (addA (addA a (Int.toNat (i : Int) * sz)) j) v := by
  rw [show Int.toNat (i : Int) * sz = i * sz by simp, ← addA_eq, ← addA_eq, add_add]
  exact h
theorem rdn {R : Rd} {a : Addr} {i sz : Nat} {vs : List Value} (h : ∀ j u, vs[j]? = some u → R (a.add (i * sz + j)) u) : ∀ j u, vs[j]? = some u → R ((addA a (Int.toNat (i : Int) * sz)).add j) u := by
  intro j u hu
  rw [show Int.toNat (i : Int) * sz = i * sz by simp, ← addA_eq, add_add]
  exact h j u hu

/-- What one value is encoded as. -/
def enc1 (x : Item) : Option (List UInt8) :=
  if x.k = 1 then some (num x.u) else if x.k = 2 then some (num (zig x.n).toNat) else if x.k = 3 then some [if x.b then 1 else 0]
  else if x.k = 4 ∨ x.k = 5 then some (num x.s.length ++ x.s) else if x.k = 6 then (if x.s.length = 32 then some x.s else none)
  else if x.k = 7 then (if x.n < 0 then none else some (num x.n.toNat)) else some []
def put1 (st : List UInt8 × Int) (x : Item) : List UInt8 × Int := if st.2 = 0 then (match enc1 x with | some y => (st.1 ++ y, 0) | none => (st.1, 1)) else st
def encS (l : List Item) : List UInt8 × Int := l.foldl put1 ([], 0)

theorem put_some {x : Item} {y : List UInt8} (h : enc1 x = some y) (bs : List UInt8) (e : Int) : put1 (bs, e) x = (if e = 0 then bs ++ y else bs, e) := by
  unfold put1
  by_cases he : e = 0 <;> simp [he, h]
theorem put_none {x : Item} (h : enc1 x = none) (bs : List UInt8) (e : Int) : put1 (bs, e) x = (bs, if e = 0 then 1 else e) := by
  unfold put1
  by_cases he : e = 0 <;> simp [he, h]

theorem enc1_len {x : Item} (hx : x.Ok) {y : List UInt8} (h : enc1 x = some y) : y.length ≤ x.s.length + 10 := by
  have h1 := usize_le10 hx.u
  have h2 := usize_le10 (n := (zig x.n).toNat) (by have := zig_le hx.n1 hx.n2; omega)
  have h3 := usize_le10 (n := x.n.toNat) (by have := hx.n2; omega)
  have h4 := usize_le10 (n := x.s.length) (by have := hx.s; omega)
  unfold enc1 at h
  split at h
  · cases h; rw [length_num]; omega
  split at h
  · cases h; rw [length_num]; omega
  split at h
  · cases h; simp
  split at h
  · cases h; rw [List.length_append, length_num]; omega
  split at h
  · split at h
    · cases h; omega
    · cases h
  split at h
  · split at h
    · cases h
    · cases h; rw [length_num]; omega
  · cases h; simp

theorem put1_len {x : Item} (hx : x.Ok) (st : List UInt8 × Int) : (put1 st x).1.length ≤ st.1.length + x.s.length + 10 := by
  obtain ⟨bs, e⟩ := st
  cases h : enc1 x with
  | none => rw [put_none h]; show bs.length ≤ bs.length + _ + _; omega
  | some y =>
    have := enc1_len hx h
    rw [put_some h]
    show List.length (if e = 0 then bs ++ y else bs) ≤ bs.length + _ + _
    split
    · rw [List.length_append]; omega
    · omega

def smallB (l : List Item) : Bool := l.all (fun x => decide (x.s.length ≤ 400)) && decide (l.length ≤ 40)

theorem encS_take {l : List Item} {i : Nat} {x : Item} (h : l[i]? = some x) : encS (l.take (i + 1)) = put1 (encS (l.take i)) x := by
  rw [List.take_add_one, h]
  simp [encS]

end Go.Proofs.YtgnmbgbiajgpeaaDoor

namespace Go.Proofs.YtgnmbgbiajgpeaaDoor
open Go Go.RowKit

theorem fold_err : ∀ (l : List Item) {st : List UInt8 × Int}, st.2 ≠ 0 → l.foldl put1 st = st
  | [], _, _ => rfl
  | x :: l, st, h => by
    rw [List.foldl_cons]
    have : put1 st x = st := by unfold put1; rw [if_neg h]
    rw [this]
    exact fold_err l h


def EI (l : List Item) (i : Nat) (A : Option Addr) (k : Nat) (xs : List Value) : Prop :=
  i ≤ l.length ∧ ∃ out, encS (l.take i) = (out, 0) ∧ out.length ≤ i * 100010 ∧ k = out.length ∧ xs = BV out ∧ grow k A

theorem EI.step {l : List Item} {i : Nat} {A : Option Addr} {k : Nat} {xs : List Value} (h : EI l i A k xs) {x : Item} (hget : l[i]? = some x) (hx : x.Ok) (h400 : x.s.length ≤ 100000) {y : List UInt8} (hy : enc1 x = some y)
    {A' : Option Addr} {k' : Nat} {xs' : List Value} (hk' : k' = k + y.length) (hx' : xs' = xs ++ BV y) (hg' : grow k' A') : EI l (i + 1) A' k' xs' := by
  obtain ⟨hi, out, he, hl, hk, hxs, _⟩ := h
  have := (List.getElem?_eq_some_iff.1 hget).1
  have hyl := enc1_len hx hy
  refine ⟨by omega, out ++ y, ?_, by rw [List.length_append]; omega, by rw [List.length_append]; omega, by rw [BV_append, ← hxs, hx'], hg'⟩
  rw [encS_take hget, he, put_some hy, if_pos rfl]

theorem EI.err {l : List Item} {i : Nat} {A : Option Addr} {k : Nat} {xs : List Value} (h : EI l i A k xs) {x : Item} (hget : l[i]? = some x) (hy : enc1 x = none) : (encS l).2 = 1 := by
  obtain ⟨hi, out, he, _⟩ := h
  have h1 : encS (l.take (i + 1)) = (out, 1) := by rw [encS_take hget, he, put_none hy, if_pos rfl]
  have h2 : encS l = (l.drop (i + 1)).foldl put1 (encS (l.take (i + 1))) := by
    unfold encS
    rw [← List.foldl_append, List.take_append_drop]
  rw [h2, h1, fold_err _ (by simp)]

theorem OwnB.none (h : Hp) : Ent h [.row .none 0 0 5 1 [] (0, 0)] := (Ent.nil h).trans (Ent.nilrow [] _ _)
theorem done1 {st : List UInt8 × Int} (h : st.2 = 1) : doneE st.1 st.2 = 1 ∧ doneB st.1 st.2 = [] := by
  rw [h]; exact ⟨by simp [doneE], by simp [doneB]⟩

end Go.Proofs.YtgnmbgbiajgpeaaDoor
