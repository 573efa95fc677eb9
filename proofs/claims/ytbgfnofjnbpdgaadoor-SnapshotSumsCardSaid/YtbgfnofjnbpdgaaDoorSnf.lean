/-
  Contracts: New, last, count, find of a log of snapshots.
-/
import Derived.Test.YtbgfnofjnbpdgaaDoorSne
namespace Go.Proofs.YtbgfnofjnbpdgaaDoor
open Go Go.RowKit
set_option linter.unusedVariables false

theorem flatAt {α : Type} {c : α → List Value} {sz : Nat} : ∀ {l : List α}, (∀ x ∈ l, (c x).length = sz) → ∀ {i j : Nat} {x : α} {u : Value}, l[i]? = some x → (c x)[j]? = some u → (l.flatMap c)[i * sz + j]? = some u
  | [], _, i, j, x, u, h, _ => by simp at h
  | y :: l, hl, 0, j, x, u, h, hu => by
    simp at h
    subst h
    have := hl y (by simp)
    have hj := (List.getElem?_eq_some_iff.1 hu).1
    rw [List.flatMap_cons, List.getElem?_append_left (by omega), Nat.zero_mul, Nat.zero_add]
    exact hu
  | y :: l, hl, i + 1, j, x, u, h, hu => by
    have := hl y (by simp)
    have hj := (List.getElem?_eq_some_iff.1 hu).1
    rw [List.flatMap_cons, List.getElem?_append_right (by rw [Nat.add_mul]; omega), this, show (i + 1) * sz + j - sz = i * sz + j by rw [Nat.add_mul]; omega]
    exact flatAt (fun z hz => hl z (by simp [hz])) (by simpa using h) hu
theorem slr_at {R : Rd} {α : Type} {c : α → List Value} {sz : Nat} (hsz : ∀ x, (c x).length = sz) (h0 : 0 < sz) {A : Option Addr} {n cap : Nat} {l : List α} (h : SlR R sz (.slice A n cap) n (l.flatMap c)) {i : Nat} {x : α} (hx : l[i]? = some x) : ∃ a, A = some a ∧ ∀ j u, (c x)[j]? = some u → R (a.add (i * sz + j)) u := by
  obtain ⟨_, A', cap', hv, hr⟩ := h
  cases hv
  have h1 : 0 < (c x).length := by rw [hsz]; exact h0
  obtain ⟨a, rfl, _⟩ := hr (i * sz + 0) _ (flatAt (sz := sz) (c := c) (fun x _ => hsz x) hx (j := 0) (List.getElem?_eq_getElem h1))
  refine ⟨a, rfl, fun j u hu => ?_⟩
  obtain ⟨a', ha, hR⟩ := hr (i * sz + j) u (flatAt (sz := sz) (c := c) (fun x _ => hsz x) hx hu)
  cases ha
  exact hR
theorem rdnS {R : Rd} {a : Addr} {i sz : Nat} {vs : List Value} (h : ∀ j u, vs[j]? = some u → R (a.add (i * sz + j)) u) : ∀ j u, vs[j]? = some u → R ((addA a (Int.toNat (i : Int) * sz)).add j) u := by
  intro j u hu
  rw [show Int.toNat (i : Int) * sz = i * sz by simp, ← addA_eq, add_add]
  exact h j u hu
theorem fldS {R : Rd} {a : Addr} {i sz j : Nat} {v : Value} (h : R (a.add (i * sz + j)) v) : R (addA (addA a (Int.toNat (i : Int) * sz)) j) v := by
  rw [show Int.toNat (i : Int) * sz = i * sz by simp, ← addA_eq, ← addA_eq, add_add]
  exact h
theorem Rec.pre (x : Rec) {j : Nat} {u : Value} (h : x.s.cells[j]? = some u) : x.cells[j]? = some u := by
  have hj : j < 10 := (List.getElem?_eq_some_iff.1 h).1
  show (x.s.cells ++ [.bool x.fo, .bool x.he])[j]? = some u
  rw [List.getElem?_append_left hj]; exact h

theorem New_okS (R : Rd) : Fn Tryd.prog 25 [] [] R (fun v h => ∃ g, v = .pointer (some ⟨g, 0, .none⟩) ∧ LogIs g (fun _ => []) h) := by
  refine fn_of_vc mixed tabOk Tryd.func25 rfl (by kernel_rfl) (Nat.le_of_ble_eq_true rfl) ?_
  intro r
  intro g
  refine ⟨logH g r [] 0, (Ent.perm (List.Perm.swap _ _ [])).trans ?_, g, rfl, r, [], 0, ⟨List.nodup_nil, (fun _ h => by cases h), (fun _ h => by cases h), List.nodup_nil, (fun _ h => by cases h)⟩, fun _ => rfl, rfl⟩
  exact (Ent.app (Ent.refl [_, _]) (Ent.rows_mk []))

def lastV (l : List Rec) : Snap := (lastC l).getD Snap.zero
theorem lastV_zero {l : List Rec} (h : l.length = 0) : lastV l = Snap.zero ∧ lastC l = .none := by
  have : l = [] := List.eq_nil_of_length_eq_zero h
  subst this; exact ⟨rfl, rfl⟩
theorem lastV_some {l : List Rec} {x : Rec} (h : l[l.length - 1]? = some x) : lastV l = x.s ∧ lastC l = some x.s := by
  have : l.getLast? = some x := by rw [List.getLast?_eq_getElem?]; exact h
  rw [lastV, lastC, this]; exact ⟨rfl, rfl⟩

theorem last_ok (R : Rd) {g r : Nat} {st : List WR} {c : Nat} (hL : LogR R g r st) (w : Int) (hn : (chainOf st w).length ≤ 1000000) :
    Fn Tryd.prog 39 [.pointer (some ⟨g, 0, .none⟩), .int .i64 w] [logM r st c] R (fun v h => v = .tuple ⟨[.agg ⟨(lastV (chainOf st w)).cells⟩, .bool (lastC (chainOf st w)).isSome]⟩ ∧ h = [logM r st c]) := by
  refine fn_of_vc mixed tabOk Tryd.func39 rfl (by kernel_rfl) (Nat.le_of_ble_eq_true rfl) ?_
  intro g4
  refine ⟨_, .inl hL.m, ?_⟩
  refine ⟨0, rfl, like_ents _ _, ?_⟩
  rintro v b hf
  obtain ⟨A, cap, rfl, hs⟩ := hL.found hf
  generalize hch : chainOf st w = l at *
  refine ⟨fun hb => ?_, fun hb => ?_⟩
  · replace hb := of_decide_eq_true hb
    obtain ⟨e1, e2⟩ := lastV_zero (l := l) (by omega)
    refine ⟨rfl, rfl, 1, rfl, rfl, Nat.le_of_ble_eq_true rfl, ?_⟩
    refine ⟨Snap.zero.cells, rdBlk 1 rfl, rfl, ?_⟩
    exact ⟨_, Ent.drop [_] [_], by rw [e1, e2]; rfl, rfl⟩
  · replace hb := of_decide_eq_false hb
    have h1 : l.length - 1 < l.length := by omega
    have hget := List.getElem?_eq_getElem h1
    generalize l[l.length - 1] = x at hget
    obtain ⟨e1, e2⟩ := lastV_some hget
    obtain ⟨a, rfl, hr⟩ := slr_at (c := Rec.cells) (fun _ => rfl) (by omega) hs hget
    (intro z hz; obtain rfl : z = ((l.length - 1 : Nat) : Int) := (by first | (rw [IntKind.wrap_i64] at hz; omega) | (rw [IntKind.wrap_u64] at hz; omega) | omega); clear hz)
    refine ⟨by omega, by omega, a, rfl, ?_⟩
    refine ⟨x.s.cells, fun j u hu => .inl (rdnS (vs := x.s.cells) (fun j u hu => hr j u (x.pre hu)) j u hu), rfl, ?_⟩
    refine ⟨rfl, rfl, 1, rfl, rfl, Nat.le_of_ble_eq_true rfl, ?_⟩
    refine ⟨x.s.cells, rdBlk 1 rfl, rfl, ?_⟩
    exact ⟨_, Ent.drop [_] [_], by rw [e1, e2]; rfl, rfl⟩

/-! ### the number of records -/
def totalW (st : List WR) : Nat := (st.map fun x => x.l.length).sum
def restW (seen : List Nat) (st : List WR) : Nat := ((st.filter fun x => decide (x.born ∉ seen)).map fun x => x.l.length).sum
def restN (seen : List Nat) (st : List WR) : Nat := (st.filter fun x => decide (x.born ∉ seen)).length

theorem rest_cons (seen : List Nat) (y : WR) (st : List WR) : restW seen (y :: st) = (if y.born ∈ seen then 0 else y.l.length) + restW seen st ∧ restN seen (y :: st) = (if y.born ∈ seen then 0 else 1) + restN seen st := by
  unfold restW restN
  rw [List.filter_cons]
  by_cases h : y.born ∈ seen
  · rw [if_neg (by simpa using h), if_pos h, if_pos h]; omega
  · rw [if_pos (by simpa using h), if_neg h, if_neg h, List.map_cons, List.sum_cons, List.length_cons]; omega
theorem rest_skip {seen : List Nat} {b : Nat} : ∀ {st : List WR}, (∀ x ∈ st, x.born ≠ b) → restW (seen ++ [b]) st = restW seen st ∧ restN (seen ++ [b]) st = restN seen st
  | [], _ => ⟨rfl, rfl⟩
  | y :: st, h => by
    obtain ⟨h1, h2⟩ := rest_skip (seen := seen) (b := b) (st := st) fun x hx => h x (by simp [hx])
    obtain ⟨a1, a2⟩ := rest_cons (seen ++ [b]) y st
    obtain ⟨b1, b2⟩ := rest_cons seen y st
    have hy := h y (by simp)
    have e : (y.born ∈ seen ++ [b]) ↔ y.born ∈ seen := by simp [hy]
    simp only [e] at a1 a2
    rw [a1, a2, b1, b2, h1, h2]; exact ⟨rfl, rfl⟩
theorem rest_step {seen : List Nat} : ∀ {st : List WR} {x : WR}, (st.map WR.born).Nodup → x ∈ st → x.born ∉ seen → restW seen st = x.l.length + restW (seen ++ [x.born]) st ∧ restN seen st = 1 + restN (seen ++ [x.born]) st
  | [], x, _, h, _ => by cases h
  | y :: st, x, hn, h, hs => by
    rw [List.map_cons, List.nodup_cons] at hn
    obtain ⟨a1, a2⟩ := rest_cons (seen ++ [x.born]) y st
    obtain ⟨b1, b2⟩ := rest_cons seen y st
    rcases List.mem_cons.1 h with rfl | h
    · obtain ⟨c1, c2⟩ := rest_skip (seen := seen) (b := x.born) (st := st) fun z hz e => hn.1 (List.mem_map.2 ⟨z, hz, e⟩)
      rw [if_pos (by simp)] at a1 a2
      rw [if_neg hs] at b1 b2
      omega
    · obtain ⟨c1, c2⟩ := rest_step hn.2 h hs
      have hne : y.born ≠ x.born := fun e => hn.1 (by rw [e]; exact List.mem_map.2 ⟨x, h, rfl⟩)
      have e : (y.born ∈ seen ++ [x.born]) ↔ y.born ∈ seen := by simp [hne]
      simp only [e] at a1 a2
      omega
theorem rest_nil (st : List WR) : restW [] st = totalW st := by
  unfold restW totalW
  rw [List.filter_eq_self.2]
  intro x _; simp
theorem rest_all {seen : List Nat} {st : List WR} (h : ∀ x ∈ st, x.born ∈ seen) : restW seen st = 0 := by
  unfold restW
  rw [List.filter_eq_nil_iff.2]
  · rfl
  · intro x hx; simpa using h x hx

theorem born_find {st : List WR} (hn : (st.map WR.born).Nodup) {x : WR} (hx : x ∈ st) : (entsOf st).find? (fun e => e.born == x.born) = some x.entry := by
  induction st with
  | nil => cases hx
  | cons y r ih =>
    rw [List.map_cons, List.nodup_cons] at hn
    show (y.entry :: entsOf r).find? _ = _
    rw [List.find?_cons]
    rcases List.mem_cons.1 hx with rfl | hx
    · have : (x.entry.born == x.born) = true := by simp [WR.entry]
      rw [this]
    · have hne : y.born ≠ x.born := fun e => hn.1 (by rw [e]; exact List.mem_map.2 ⟨x, hx, rfl⟩)
      have : (y.entry.born == x.born) = false := by simp [WR.entry, hne]
      rw [this]
      exact ih hn.2 hx

theorem count_ok (R : Rd) {g r : Nat} {st : List WR} {c : Nat} (hok : LogOk st c) (hL : LogR R g r st) (hn : totalW st ≤ 1000000) :
    Fn Tryd.prog 44 [.pointer (some ⟨g, 0, .none⟩)] [logM r st c] R (fun v h => v = .int .i64 (totalW st) ∧ h = [logM r st c]) := by
  refine fn_of_vc mixed tabOk Tryd.func44 rfl (by kernel_rfl) (Nat.le_of_ble_eq_true rfl) ?_
  refine ⟨_, .inl hL.m, ?_⟩
  refine ⟨0, rfl, fun gi => ?_⟩
  refine ⟨[none, none, none, some 3, none, some 5, none, none, none, none, none, some 11, some 12, some 13, some 14, some 15, some 16, some 17, some 18], [3], Nat × List Nat, fun ⟨n, seen⟩ => n + restW seen st = totalW st, fun ⟨n, _⟩ => [.int .i64 n], fun ⟨_, seen⟩ => [logM r st c, .obj gi (.mapIter (some r) c ⟨seen⟩ c)], fun ⟨_, seen⟩ => restN seen st,
    (0, []), by show 0 + restW [] st = _; rw [rest_nil, Nat.zero_add], ⟨rfl, trivial⟩, Ent.refl _, ?_⟩
  rintro ⟨n, seen⟩ hinv js
  have hinv : n + restW seen st = totalW st := hinv
  refine ⟨1, rfl, 0, rfl, fun e he => ?_, fun e he hns => ?_, fun hall => ?_⟩
  · obtain ⟨x, hx, rfl⟩ := List.mem_map.1 he
    exact ⟨hok.born x hx, hok.born x hx⟩
  · obtain ⟨x, hx, rfl⟩ := List.mem_map.1 he
    have hns : x.born ∉ seen := hns
    obtain ⟨s1, s2⟩ := rest_step hok.bornN hx hns
    repeat (first | (refine ⟨fun h => ?_, fun h => ?_⟩; rotate_left 1; (focus (exfalso; (first | (with_reducible (cases h; done)) | (revert h; simp; done) | (revert h; simp; omega) | (revert h; simp [*]; done)))); clear h) | (refine ⟨fun h => ?_, fun h => ?_⟩; (focus (exfalso; (first | (with_reducible (cases h; done)) | (revert h; simp; done) | (revert h; simp; omega) | (revert h; simp [*]; done)))); clear h))
    refine ⟨1, rfl, x.born, by simp [WR.entry], 0, rfl, rfl, x.entry, born_find hok.bornN hx, ?_⟩
    (intro z hz; obtain rfl : z = ((n + x.l.length : Nat) : Int) := (by first | (rw [IntKind.wrap_i64] at hz; omega) | (rw [IntKind.wrap_u64] at hz; omega) | omega); clear hz)
    exact ⟨rfl, (n + x.l.length, seen ++ [x.born]), by show n + x.l.length + restW (seen ++ [x.born]) st = _; omega, by show restN (seen ++ [x.born]) st < restN seen st; omega, ⟨rfl, trivial⟩, Ent.refl _, rfl⟩
  · have h0 := rest_all (seen := seen) (st := st) fun x hx => hall x.entry (List.mem_map.2 ⟨x, hx, rfl⟩)
    repeat (first | (refine ⟨fun h => ?_, fun h => ?_⟩; rotate_left 1; (focus (exfalso; (first | (with_reducible (cases h; done)) | (revert h; simp; done) | (revert h; simp; omega) | (revert h; simp [*]; done)))); clear h) | (refine ⟨fun h => ?_, fun h => ?_⟩; (focus (exfalso; (first | (with_reducible (cases h; done)) | (revert h; simp; done) | (revert h; simp; omega) | (revert h; simp [*]; done)))); clear h))
    refine ⟨_, Ent.drop [_] [_], ?_, rfl⟩
    show Value.int _ _ = _
    congr 1; omega

theorem found_mid {a b : List WR} {x : WR} {n : Int} {v z : Value} {f : Bool} (hx : x.w = n) (h : ∀ y ∈ a, y.w ≠ n) (hf : foundE (.int .i64 n) (entsOf (a ++ x :: b)) z v f) : v = .slice x.A x.l.length x.cap := by
  rcases hf with ⟨j, hf, _⟩ | ⟨hf, _⟩
  · rw [findE_mid hx h] at hf
    simp only [Option.some.injEq, Prod.mk.injEq] at hf
    exact hf.2.symm
  · rw [findE_mid hx h] at hf; cases hf

theorem find_miss (R : Rd) {g r : Nat} {st : List WR} {c : Nat} (hL : LogR R g r st) (w q : Int) (hn : (chainOf st w).length ≤ 1000000) (hq : q < 1 ∨ ((chainOf st w).length : Int) < q) :
    Fn Tryd.prog 72 [.pointer (some ⟨g, 0, .none⟩), .int .i64 w, .int .i64 q] [logM r st c] R (fun v h => v = .pointer .none ∧ h = [logM r st c]) := by
  refine fn_of_vc mixed tabOk Tryd.func72 rfl (by kernel_rfl) (Nat.le_of_ble_eq_true rfl) ?_
  refine ⟨_, .inl hL.m, ?_⟩
  refine ⟨0, rfl, like_ents _ _, ?_⟩
  rintro v b hf
  obtain ⟨A, cap, rfl, hs⟩ := hL.found hf
  generalize chainOf st w = l at *
  by_cases h1 : q < 1
  · repeat (first | (refine ⟨fun h => ?_, fun h => ?_⟩; rotate_left 1; (focus (exfalso; (first | (with_reducible (cases h; done)) | (revert h; simp; done) | (revert h; simp; omega) | (revert h; simp [*]; done)))); clear h) | (refine ⟨fun h => ?_, fun h => ?_⟩; (focus (exfalso; (first | (with_reducible (cases h; done)) | (revert h; simp; done) | (revert h; simp; omega) | (revert h; simp [*]; done)))); clear h))
    exact ⟨_, Ent.refl _, rfl, rfl⟩
  · have h2 : (l.length : Int) < q := by omega
    repeat (first | (refine ⟨fun h => ?_, fun h => ?_⟩; rotate_left 1; (focus (exfalso; (first | (with_reducible (cases h; done)) | (revert h; simp; done) | (revert h; simp; omega) | (revert h; simp [*]; done)))); clear h) | (refine ⟨fun h => ?_, fun h => ?_⟩; (focus (exfalso; (first | (with_reducible (cases h; done)) | (revert h; simp; done) | (revert h; simp; omega) | (revert h; simp [*]; done)))); clear h))
    exact ⟨_, Ent.refl _, rfl, rfl⟩

theorem find_hit (R : Rd) {g r : Nat} {a b : List WR} {x : WR} {c : Nat} (hm : R ⟨g, 0, .none⟩ (.map (some r))) (w q : Int) (hx : x.w = w) (ha : ∀ y ∈ a, y.w ≠ w) (hn : x.l.length ≤ 1000000) (hq1 : 1 ≤ q) (hq2 : q ≤ x.l.length) {qa : Nat} (hA : x.A = some ⟨qa, 0, .none⟩) :
    Fn Tryd.prog 72 [.pointer (some ⟨g, 0, .none⟩), .int .i64 w, .int .i64 q] [logM r (a ++ x :: b) c] R (fun v h => v = .pointer (some (addA ⟨qa, 0, .none⟩ ((q - 1).toNat * 12))) ∧ h = [logM r (a ++ x :: b) c]) := by
  obtain ⟨i, rfl⟩ : ∃ i : Nat, q = (i : Int) + 1 := ⟨(q - 1).toNat, by omega⟩
  refine fn_of_vc mixed tabOk Tryd.func72 rfl (by kernel_rfl) (Nat.le_of_ble_eq_true rfl) ?_
  refine ⟨_, .inl hm, ?_⟩
  refine ⟨0, rfl, like_ents _ _, ?_⟩
  rintro v f hf
  obtain rfl := found_mid hx ha hf
  rw [hA]
  repeat (first | (refine ⟨fun h => ?_, fun h => ?_⟩; rotate_left 1; (focus (exfalso; (first | (with_reducible (cases h; done)) | (revert h; simp; done) | (revert h; simp; omega) | (revert h; simp [*]; done)))); clear h) | (refine ⟨fun h => ?_, fun h => ?_⟩; (focus (exfalso; (first | (with_reducible (cases h; done)) | (revert h; simp; done) | (revert h; simp; omega) | (revert h; simp [*]; done)))); clear h))
  (intro z hz; obtain rfl : z = ((i : Nat) : Int) := (by first | (rw [IntKind.wrap_i64] at hz; omega) | (rw [IntKind.wrap_u64] at hz; omega) | omega); clear hz)
  refine ⟨by omega, by omega, _, rfl, ?_⟩
  refine ⟨_, Ent.refl _, ?_, rfl⟩
  have e : ((i : Int) + 1 - 1).toNat = i := by omega
  rw [e]; rfl

end Go.Proofs.YtbgfnofjnbpdgaaDoor
