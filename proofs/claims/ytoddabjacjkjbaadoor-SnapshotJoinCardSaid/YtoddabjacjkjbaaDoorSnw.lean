/-
  The reference's logs: find, Records, put, Next, Add.
-/
import Derived.Test.YtoddabjacjkjbaaDoorSnv
namespace Go.Proofs.YtoddabjacjkjbaaDoor
open Go Go.RowKit
set_option linter.unusedVariables false
set_option linter.unusedSimpArgs false

def mks (l : List Mk) : List Value := l.flatMap Mk.cells
theorem Mk.cells_length (m : Mk) : m.cells.length = 11 := rfl
theorem mks_length (l : List Mk) : (mks l).length = l.length * 11 := flat_len fun _ _ => rfl
theorem mks_app (a b : List Mk) : mks (a ++ b) = mks a ++ mks b := by simp [mks]
theorem mks_snoc (l : List Mk) (x : Mk) : mks (l ++ [x]) = mks l ++ x.cells := by simp [mks]
theorem mks_one (l : List Mk) : allOne (mks l) = true := by
  refine allOne_of fun u hu => ?_
  obtain ⟨m, _, hm⟩ := List.mem_flatMap.1 hu
  simp only [Mk.cells, List.mem_cons, List.not_mem_nil, or_false] at hm
  rcases hm with rfl | rfl | rfl | rfl | rfl | rfl | rfl | rfl | rfl | rfl | rfl <;> rfl
theorem Mk.pre (x : Mk) {j : Nat} {u : Value} (h : x.s.cells[j]? = some u) : x.cells[j]? = some u := by
  have hj : j < 10 := (List.getElem?_eq_some_iff.1 h).1
  show (x.s.cells ++ [.bool x.fo])[j]? = some u
  rw [List.getElem?_append_left hj]; exact h
abbrev MkR (R : Rd) (A : Option Addr) (cap : Nat) (l : List Mk) : Prop := SlR R 11 (.slice A l.length cap) l.length (mks l)
theorem SlR.src {R : Rd} {sz n cap : Nat} {A : Option Addr} {xs : List Value} (h : SlR R sz (.slice A n cap) n xs) : ∀ j u, xs[j]? = some u → ∃ a, A = some a ∧ R (a.add j) u := by
  obtain ⟨_, A', cap', e, h⟩ := h
  cases e
  exact h

theorem SlR.srcH {R : Rd} {h : Hp} {sz n cap : Nat} {A : Option Addr} {xs : List Value} (hs : SlR R sz (.slice A n cap) n xs) : ∀ j u, xs[j]? = some u → ∃ a, A = some a ∧ RH R h (a.add j) u := fun j u hu => by
  obtain ⟨a, h1, h2⟩ := hs.src j u hu
  exact ⟨a, h1, .inl h2⟩

/-! ### find -/
theorem rFind_at {l : List Mk} {w q : Int} {k : Nat} {x : Mk} (hx : l[k]? = some x) (h1 : x.s.w = w) (h2 : x.s.q = q) (h : ∀ (i : Nat) (y : Mk), i < k → l[i]? = some y → ¬ (y.s.w = w ∧ y.s.q = q)) : rFind l w q = some k := by
  obtain ⟨hlt, e⟩ := List.getElem?_eq_some_iff.1 hx
  refine List.findIdx?_eq_some_iff_getElem.2 ⟨hlt, ?_, fun j hj => ?_⟩
  · rw [e, decide_eq_true h1, decide_eq_true h2]; rfl
  · have := h j _ hj (List.getElem?_eq_getElem (by omega))
    simpa using this
theorem rFind_no {l : List Mk} {w q : Int} (h : ∀ (i : Nat) (y : Mk), l[i]? = some y → ¬ (y.s.w = w ∧ y.s.q = q)) : rFind l w q = .none := by
  refine List.findIdx?_eq_none_iff.2 fun y hy => ?_
  obtain ⟨i, hi⟩ := List.getElem?_of_mem hy
  have := h i y hi
  simpa using this
def idxV (o : Option Nat) : Int := match o with
  | some i => (i : Int)
  | .none => -1

set_option maxHeartbeats 1000000 in
theorem reffind_ok (R : Rd) {A : Option Addr} {cap : Nat} {l : List Mk} (hs : MkR R A cap l) (hn : l.length ≤ 1000000) (w q : Int) :
    Fn Tryd.prog 169 [.slice A l.length cap, .int .i64 w, .int .i64 q] [] R (fun v h => v = .int .i64 (idxV (rFind l w q)) ∧ h = []) := by
  refine fn_of_vc mixed tabOk Tryd.func169 rfl (by kernel_rfl) (Nat.le_of_ble_eq_true rfl) ?_
  refine ⟨[none, none, none, none, none, none, some 6, some 7, some 8, some 9, some 10, some 11, some 12, some 13, some 14, some 15, some 16, some 17, some 18, some 19, some 20, some 21, some 22, some 23, some 24, some 25, some 26, some 27, some 28, some 29, some 30, some 31, some 32], [7], Nat, fun k => k ≤ l.length ∧ ∀ (i : Nat) (y : Mk), i < k → l[i]? = some y → ¬ (y.s.w = w ∧ y.s.q = q), fun k => [.int .i64 k], fun k => [], fun k => l.length - k,
    0, ⟨Nat.zero_le _, fun i y hi => by omega⟩, ⟨rfl, trivial⟩, Ent.refl _, ?_⟩
  rintro k ⟨hk, hall⟩ js
  refine ⟨fun hb => ?_, fun hb => ?_⟩
  · replace hb := of_decide_eq_true hb
    have hil : k < l.length := by omega
    clear hb
    have hget := List.getElem?_eq_getElem hil
    generalize l[k] = x at hget
    have hnext : ¬ (x.s.w = w ∧ x.s.q = q) → ∀ (i : Nat) (y : Mk), i < k + 1 → l[i]? = some y → ¬ (y.s.w = w ∧ y.s.q = q) := fun hx i y hi hy => by
      by_cases hik : i = k
      · subst hik; rw [hget] at hy; cases hy; exact hx
      · exact hall i y (by omega) hy
    obtain ⟨a, rfl, hr⟩ := slr_at (c := Mk.cells) (fun _ => rfl) (by omega) hs hget
    refine ⟨by omega, by omega, a, rfl, ?_⟩
    refine ⟨_, .inl (fldS (hr 0 _ rfl)), ?_⟩
    by_cases h1 : x.s.w = w
    · repeat (first | (refine ⟨fun h => ?_, fun h => ?_⟩; rotate_left 1; (focus (exfalso; (first | (with_reducible (cases h; done)) | (revert h; simp; done) | (revert h; simp; omega) | (revert h; simp [*]; done)))); clear h) | (refine ⟨fun h => ?_, fun h => ?_⟩; (focus (exfalso; (first | (with_reducible (cases h; done)) | (revert h; simp; done) | (revert h; simp; omega) | (revert h; simp [*]; done)))); clear h))
      refine ⟨by omega, by omega, a, rfl, ?_⟩
      repeat (first | (refine ⟨fun h => ?_, fun h => ?_⟩; rotate_left 1; (focus (exfalso; (first | (with_reducible (cases h; done)) | (revert h; simp; done) | (revert h; simp; omega) | (revert h; simp [*]; done)))); clear h) | (refine ⟨fun h => ?_, fun h => ?_⟩; (focus (exfalso; (first | (with_reducible (cases h; done)) | (revert h; simp; done) | (revert h; simp; omega) | (revert h; simp [*]; done)))); clear h))
      refine ⟨_, .inl (fldS (hr 1 _ rfl)), ?_⟩
      repeat (first | (refine ⟨fun h => ?_, fun h => ?_⟩; rotate_left 1; (focus (exfalso; (first | (with_reducible (cases h; done)) | (revert h; simp; done) | (revert h; simp; omega) | (revert h; simp [*]; done)))); clear h) | (refine ⟨fun h => ?_, fun h => ?_⟩; (focus (exfalso; (first | (with_reducible (cases h; done)) | (revert h; simp; done) | (revert h; simp; omega) | (revert h; simp [*]; done)))); clear h))
      by_cases h2 : x.s.q = q
      · repeat (first | (refine ⟨fun h => ?_, fun h => ?_⟩; rotate_left 1; (focus (exfalso; (first | (with_reducible (cases h; done)) | (revert h; simp; done) | (revert h; simp; omega) | (revert h; simp [*]; done)))); clear h) | (refine ⟨fun h => ?_, fun h => ?_⟩; (focus (exfalso; (first | (with_reducible (cases h; done)) | (revert h; simp; done) | (revert h; simp; omega) | (revert h; simp [*]; done)))); clear h))
        exact ⟨_, Ent.refl _, by rw [rFind_at hget h1 h2 hall]; rfl, rfl⟩
      · repeat (first | (refine ⟨fun h => ?_, fun h => ?_⟩; rotate_left 1; (focus (exfalso; (first | (with_reducible (cases h; done)) | (revert h; simp; done) | (revert h; simp; omega) | (revert h; simp [*]; done)))); clear h) | (refine ⟨fun h => ?_, fun h => ?_⟩; (focus (exfalso; (first | (with_reducible (cases h; done)) | (revert h; simp; done) | (revert h; simp; omega) | (revert h; simp [*]; done)))); clear h))
        (intro z hz; obtain rfl : z = ((k + 1 : Nat) : Int) := (by first | (rw [IntKind.wrap_i64] at hz; omega) | (rw [IntKind.wrap_u64] at hz; omega) | omega); clear hz)
        exact ⟨rfl, k + 1, ⟨hil, hnext fun h => h2 h.2⟩, by show l.length - (k + 1) < l.length - k; omega, ⟨rfl, trivial⟩, Ent.refl _, rfl⟩
    · repeat (first | (refine ⟨fun h => ?_, fun h => ?_⟩; rotate_left 1; (focus (exfalso; (first | (with_reducible (cases h; done)) | (revert h; simp; done) | (revert h; simp; omega) | (revert h; simp [*]; done)))); clear h) | (refine ⟨fun h => ?_, fun h => ?_⟩; (focus (exfalso; (first | (with_reducible (cases h; done)) | (revert h; simp; done) | (revert h; simp; omega) | (revert h; simp [*]; done)))); clear h))
      (intro z hz; obtain rfl : z = ((k + 1 : Nat) : Int) := (by first | (rw [IntKind.wrap_i64] at hz; omega) | (rw [IntKind.wrap_u64] at hz; omega) | omega); clear hz)
      exact ⟨rfl, k + 1, ⟨hil, hnext fun h => h1 h.1⟩, by show l.length - (k + 1) < l.length - k; omega, ⟨rfl, trivial⟩, Ent.refl _, rfl⟩
  · replace hb := of_decide_eq_false hb
    obtain rfl : k = l.length := by omega
    exact ⟨_, Ent.refl _, by rw [rFind_no fun i y hy => hall i y (List.getElem?_eq_some_iff.1 hy).1 hy]; rfl, rfl⟩

/-! ### Records -/
/-- A new slice of records. -/
def OwnSn (v : Value) (xs : List Snap) (h : Hp) : Prop := ∃ A cap, grow xs.length A ∧ v = .slice A xs.length cap ∧ h = [.row A xs.length cap 140 10 (snaps xs) (0, 0)]
theorem OwnSn.of {A : Option Addr} {cap n : Nat} {xs : List Snap} (hn : n = xs.length) (hg : grow n A) : OwnSn (.slice A n cap) xs [.row A n cap 140 10 (snaps xs) (0, 0)] := by
  subst hn; exact ⟨A, cap, hg, rfl, rfl⟩
set_option maxHeartbeats 1000000 in
theorem refRecords_ok (R : Rd) {A : Option Addr} {cap : Nat} {l : List Mk} (hs : MkR R A cap l) (hn : l.length ≤ 1000000) :
    Fn Tryd.prog 166 [.slice A l.length cap] [] R (fun v h => OwnSn v (l.map Mk.s) h) := by
  have hML := maxLen_eq
  refine fn_of_vc mixed tabOk Tryd.func166 rfl (by kernel_rfl) (Nat.le_of_ble_eq_true rfl) ?_
  refine ⟨rfl, fun g0 => ?_⟩
  refine ⟨[none, none, none, some 3, some 4, none, some 6, some 7, some 8, some 9, some 10, some 11, some 12, some 13, some 14, some 15, some 16, some 17, some 18, some 19], [3, 4], Option Addr × Nat × Nat, fun ⟨A', cap', k⟩ => k ≤ l.length ∧ grow k A', fun ⟨A', cap', k⟩ => [.slice A' k cap', .int .i64 k],
    fun ⟨A', cap', k⟩ => [.row A' k cap' 140 10 (snaps ((l.take k).map Mk.s)) (0, 0)], fun ⟨_, _, k⟩ => l.length - k, (some ⟨g0, 0, .none⟩, 0, 0), ⟨Nat.zero_le _, .inl rfl⟩, ⟨rfl, rfl, trivial⟩, Ent.refl _, ?_⟩
  rintro ⟨A', cap', k⟩ ⟨hk, hg⟩ js
  refine ⟨fun hb => ?_, fun hb => ?_⟩
  · replace hb := of_decide_eq_true hb
    have hil : k < l.length := by omega
    clear hb
    have hget := List.getElem?_eq_getElem hil
    have htake := List.take_add_one (l := l) (i := k)
    rw [hget] at htake
    generalize l[k] = x at hget htake
    obtain ⟨a, rfl, hr⟩ := slr_at (c := Mk.cells) (fun _ => rfl) (by omega) hs hget
    refine ⟨by omega, by omega, a, rfl, ?_⟩
    refine ⟨x.s.cells, fun j u hu => .inl (rdnS (vs := x.s.cells) (fun j u hu => hr j u (x.pre hu)) j u hu), rfl, ?_⟩
    refine ⟨rfl, fun g8 => ?_⟩
    refine ⟨x.s.cells, rfl, rdRow 1 rfl, rfl, by show (_ + _) * 96 ≤ _; omega, by omega, .inr ⟨0, rfl, rfl, rfl, rfl, rfl, rfl, fun A2 cap2 hg2 => ?_⟩⟩
    (intro z hz; obtain rfl : z = ((k + 1 : Nat) : Int) := (by first | (rw [IntKind.wrap_i64] at hz; omega) | (rw [IntKind.wrap_u64] at hz; omega) | omega); clear hz)
    refine ⟨rfl, (A2, cap2, k + 1), ⟨hil, hg2⟩, by show l.length - (k + 1) < l.length - k; omega, ⟨rfl, rfl, trivial⟩, ?_, rfl⟩
    have e : snaps ((l.take (k + 1)).map Mk.s) = snaps ((l.take k).map Mk.s) ++ x.s.cells := by
      rw [htake, ← snaps_snoc, List.map_append]; rfl
    show Ent _ [.row A2 (k + 1) cap2 _ 10 (snaps ((l.take (k + 1)).map Mk.s)) _]
    rw [e]
    exact Ent.drop [_] [_]
  · replace hb := of_decide_eq_false hb
    obtain rfl : k = l.length := by omega
    refine ⟨_, Ent.refl _, ?_⟩
    show OwnSn (.slice A' l.length cap') (l.map Mk.s) [.row A' l.length cap' 140 10 (snaps ((l.take l.length).map Mk.s)) (0, 0)]
    rw [List.take_length]
    exact OwnSn.of (List.length_map _).symm hg

/-! ### put -/
theorem rPut_at {l : List Mk} {m : Mk} {k : Nat} (hk : k ≤ l.length) (h : ∀ (i : Nat) (y : Mk), i < k → l[i]? = some y → rLess y.s m.s = true) (he : k = l.length ∨ ∃ y, l[k]? = some y ∧ rLess y.s m.s = false) : rPut l m = l.take k ++ m :: l.drop k := by
  have ha : ∀ y ∈ l.take k, rLess y.s m.s = true := fun y hy => by
    obtain ⟨i, hi⟩ := List.getElem?_of_mem hy
    have hik := (List.getElem?_eq_some_iff.1 hi).1
    rw [List.length_take] at hik
    rw [List.getElem?_take_of_lt (by omega)] at hi
    exact h i y (by omega) hi
  have key : ∀ (a b : List Mk), (∀ y ∈ a, rLess y.s m.s = true) → (b = [] ∨ ∃ y r, b = y :: r ∧ rLess y.s m.s = false) → (a ++ b).takeWhile (fun x => rLess x.s m.s) = a ∧ (a ++ b).dropWhile (fun x => rLess x.s m.s) = b := by
    intro a b ha hb
    induction a with
    | nil =>
      rcases hb with rfl | ⟨y, r, rfl, hy⟩
      · exact ⟨rfl, rfl⟩
      · simp [List.takeWhile_cons, List.dropWhile_cons, hy]
    | cons x r ih =>
      obtain ⟨h1, h2⟩ := ih fun y hy => ha y (by simp [hy])
      simp [List.takeWhile_cons, List.dropWhile_cons, ha x (by simp), h1, h2]
  have hb : l.drop k = [] ∨ ∃ y r, l.drop k = y :: r ∧ rLess y.s m.s = false := by
    rcases he with rfl | ⟨y, hy, hf⟩
    · left; exact List.drop_length
    · right; exact ⟨y, _, drop_at hy, hf⟩
  have := key _ _ ha hb
  rw [List.take_append_drop] at this
  unfold rPut
  rw [this.1, this.2]


set_option maxRecDepth 100000 in
set_option maxHeartbeats 4000000 in
theorem refput_ok (R : Rd) {A : Option Addr} {cap : Nat} {l : List Mk} (hs : MkR R A cap l) (hn : l.length ≤ 1000000) (hc : l.length ≤ cap) (m : Mk) :
    Fn Tryd.prog 172 [.slice A l.length cap, .agg ⟨m.cells⟩] [] R (fun v h => ∃ A' cap', grow (l.length + 1) A' ∧ v = .slice A' (l.length + 1) cap' ∧ h = [.row A' (l.length + 1) cap' 242 11 (mks (rPut l m)) (0, 0)]) := by
  have hML := maxLen_eq
  refine fn_of_vc mixed tabOk Tryd.func172 rfl (by kernel_rfl) (Nat.le_of_ble_eq_true rfl) ?_
  intro g3
  refine ⟨[none, none, none, none, none, some 5, some 6, some 7, some 8, some 9, some 10, some 11, some 12, some 13, some 14, some 15, some 16, some 17, some 18, some 19, some 20, some 21, some 22, some 23, some 24, some 25, some 26, some 27, some 28, some 29, some 30, some 31, some 32, some 33, some 34, some 35, some 36, some 37, some 38, some 39, some 40, some 41, some 42, some 43, some 44, some 45, some 46, some 47], [5], Nat, fun k => k ≤ l.length ∧ ∀ (i : Nat) (y : Mk), i < k → l[i]? = some y → rLess y.s m.s = true, fun k => [.int .i64 k], fun k => [.blk g3 242 m.cells], fun k => l.length - k,
    0, ⟨Nat.zero_le _, fun i y hi => by omega⟩, ⟨rfl, trivial⟩, Ent.refl _, ?_⟩
  rintro k ⟨hk, hall⟩ js
  by_cases hlen : k < l.length
  case neg =>
    have hend : k = l.length ∨ ∃ y, l[k]? = some y ∧ rLess y.s m.s = false := .inl (by omega)
    refine ⟨[0], lexT 0 40, by kernel_rfl, ?_⟩
    repeat (first | (refine ⟨fun h => ?_, fun h => ?_⟩; rotate_left 1; (focus (exfalso; (first | (with_reducible (cases h; done)) | (revert h; simp; done) | (revert h; simp; omega) | (revert h; simp [*]; done)))); clear h) | (refine ⟨fun h => ?_, fun h => ?_⟩; (focus (exfalso; (first | (with_reducible (cases h; done)) | (revert h; simp; done) | (revert h; simp; omega) | (revert h; simp [*]; done)))); clear h))
    have hput := rPut_at hk hall hend
    have hlt : (mks (l.take k)).length = (k - 0) * 11 := by rw [mks_length, List.length_take]; congr 1; omega
    have hld : (mks (l.drop k)).length = (l.length - k) * 11 := by rw [mks_length, List.length_drop]
    have hpre4 := SlR.pre (c := Mk.cells) (fun _ => rfl) (by omega) (hs.rh [.blk g3 242 m.cells]) hk hc
    have hsuf4 := SlR.sub (c := Mk.cells) (fun _ => rfl) (by omega) (hs.rh [.blk g3 242 m.cells]) hk (Nat.le_refl _) hc
    rw [show (l.drop k).take (l.length - k) = l.drop k from List.take_of_length_le (by rw [List.length_drop]; omega)] at hsuf4
    have hcount : 0 + (k - 0) + 1 + (l.length - k) = l.length + 1 := by omega
    refine ⟨[0], (.q 1 (.q 2 (.q 3 (.q 5 (.q 8 (.q 9 (.q 10 (.two 0 (.two 4 (.one 6 (.one 7 (.one 11 (.q 12 .nil)))) 6 (.one 4 (.one 7 (.one 11 (.q 12 .nil))))) 6 (.one 0 (.one 4 (.one 7 (.one 11 (.q 12 .nil))))))))))))), by kernel_rfl, ?_⟩
    refine ⟨0, k, rfl, rfl, Nat.zero_le _, by omega, ?_⟩
    refine ⟨m.cells, rdBlk 0 rfl, rfl, ?_⟩
    refine ⟨k, l.length, rfl, rfl, hk, by omega, ?_⟩
    refine ⟨?_, ?_⟩
    · refine ⟨rfl, fun g0 => ?_⟩
      refine ⟨?_, ?_⟩
      · refine ⟨mks (l.take k), hlt, hpre4.srcH, mks_one _, by show (_ + _) * 104 ≤ _; omega, by omega, .inr ⟨0, rfl, rfl, rfl, rfl, rfl, rfl, fun A4 cap4 hg4 => ?_⟩⟩
        refine ⟨rfl, fun g6 => ?_⟩
        refine ⟨m.cells, rfl, rdRow 1 rfl, rfl, by show (_ + _) * 104 ≤ _; omega, by omega, .inr ⟨0, rfl, rfl, rfl, rfl, rfl, rfl, fun A7 cap7 hg7 => ?_⟩⟩
        refine ⟨mks (l.drop k), hld, hsuf4.srcH, mks_one _, by show (_ + _) * 104 ≤ _; omega, by omega, .inr ⟨0, rfl, rfl, rfl, rfl, rfl, rfl, fun A11 cap11 hg11 => ?_⟩⟩
        refine ⟨[.row A11 (l.length + 1) cap11 242 11 (mks (rPut l m)) (0, 0)], ?_, A11, cap11, by rw [← hcount]; exact hg11, by rw [← hcount]; rfl, rfl⟩
        rw [hput, mks_app, ← hcount]
        show Ent _ [.row A11 _ cap11 _ 11 (mks (l.take k) ++ (m.cells ++ mks (l.drop k))) _]
        rw [← List.append_assoc]
        exact Ent.pick [1] rfl
      · refine ⟨rfl, fun g6 => ?_⟩
        refine ⟨mks (l.take k), hlt, hpre4.srcH, mks_one _, by show (_ + _) * 104 ≤ _; omega, by omega, .inr ⟨0, rfl, rfl, rfl, rfl, rfl, rfl, fun A4 cap4 hg4 => ?_⟩⟩
        refine ⟨m.cells, rfl, rdRow 1 rfl, rfl, by show (_ + _) * 104 ≤ _; omega, by omega, .inr ⟨0, rfl, rfl, rfl, rfl, rfl, rfl, fun A7 cap7 hg7 => ?_⟩⟩
        refine ⟨mks (l.drop k), hld, hsuf4.srcH, mks_one _, by show (_ + _) * 104 ≤ _; omega, by omega, .inr ⟨0, rfl, rfl, rfl, rfl, rfl, rfl, fun A11 cap11 hg11 => ?_⟩⟩
        refine ⟨[.row A11 (l.length + 1) cap11 242 11 (mks (rPut l m)) (0, 0)], ?_, A11, cap11, by rw [← hcount]; exact hg11, by rw [← hcount]; rfl, rfl⟩
        rw [hput, mks_app, ← hcount]
        show Ent _ [.row A11 _ cap11 _ 11 (mks (l.take k) ++ (m.cells ++ mks (l.drop k))) _]
        rw [← List.append_assoc]
        exact Ent.pick [1] rfl
    · refine ⟨rfl, fun g6 => ?_⟩
      refine ⟨rfl, fun g0 => ?_⟩
      refine ⟨mks (l.take k), hlt, hpre4.srcH, mks_one _, by show (_ + _) * 104 ≤ _; omega, by omega, .inr ⟨1, rfl, rfl, rfl, rfl, rfl, rfl, fun A4 cap4 hg4 => ?_⟩⟩
      refine ⟨m.cells, rfl, rdRow 0 rfl, rfl, by show (_ + _) * 104 ≤ _; omega, by omega, .inr ⟨1, rfl, rfl, rfl, rfl, rfl, rfl, fun A7 cap7 hg7 => ?_⟩⟩
      refine ⟨mks (l.drop k), hld, hsuf4.srcH, mks_one _, by show (_ + _) * 104 ≤ _; omega, by omega, .inr ⟨1, rfl, rfl, rfl, rfl, rfl, rfl, fun A11 cap11 hg11 => ?_⟩⟩
      refine ⟨[.row A11 (l.length + 1) cap11 242 11 (mks (rPut l m)) (0, 0)], ?_, A11, cap11, by rw [← hcount]; exact hg11, by rw [← hcount]; rfl, rfl⟩
      rw [hput, mks_app, ← hcount]
      show Ent _ [.row A11 _ cap11 _ 11 (mks (l.take k) ++ (m.cells ++ mks (l.drop k))) _]
      rw [← List.append_assoc]
      exact Ent.pick [2] rfl
  have hget := List.getElem?_eq_getElem hlen
  generalize l[k] = x at hget
  have hnext : rLess x.s m.s = true → ∀ (i : Nat) (y : Mk), i < k + 1 → l[i]? = some y → rLess y.s m.s = true := fun hx i y hi hy => by
    by_cases hik : i = k
    · subst hik; rw [hget] at hy; cases hy; exact hx
    · exact hall i y (by omega) hy
  obtain ⟨a, hA, hr⟩ := slr_at (c := Mk.cells) (fun _ => rfl) (by omega) hs hget
  refine ⟨[0], lexT 0 40, by kernel_rfl, ?_⟩
  repeat (first | (refine ⟨fun h => ?_, fun h => ?_⟩; rotate_left 1; (focus (exfalso; (first | (with_reducible (cases h; done)) | (revert h; simp; done) | (revert h; simp; omega) | (revert h; simp [*]; done)))); clear h) | (refine ⟨fun h => ?_, fun h => ?_⟩; (focus (exfalso; (first | (with_reducible (cases h; done)) | (revert h; simp; done) | (revert h; simp; omega) | (revert h; simp [*]; done)))); clear h))
  refine ⟨by omega, by omega, a, hA, ?_⟩
  repeat (first | (refine ⟨fun h => ?_, fun h => ?_⟩; rotate_left 1; (focus (exfalso; (first | (with_reducible (cases h; done)) | (revert h; simp; done) | (revert h; simp; omega) | (revert h; simp [*]; done)))); clear h) | (refine ⟨fun h => ?_, fun h => ?_⟩; (focus (exfalso; (first | (with_reducible (cases h; done)) | (revert h; simp; done) | (revert h; simp; omega) | (revert h; simp [*]; done)))); clear h))
  refine ⟨_, .inl (fldS (hr 0 _ rfl)), ?_⟩
  repeat (first | (refine ⟨fun h => ?_, fun h => ?_⟩; rotate_left 1; (focus (exfalso; (first | (with_reducible (cases h; done)) | (revert h; simp; done) | (revert h; simp; omega) | (revert h; simp [*]; done)))); clear h) | (refine ⟨fun h => ?_, fun h => ?_⟩; (focus (exfalso; (first | (with_reducible (cases h; done)) | (revert h; simp; done) | (revert h; simp; omega) | (revert h; simp [*]; done)))); clear h))
  refine ⟨_, ld 0 rfl rfl, ?_⟩
  repeat (first | (refine ⟨fun h => ?_, fun h => ?_⟩; rotate_left 1; (focus (exfalso; (first | (with_reducible (cases h; done)) | (revert h; simp; done) | (revert h; simp; omega) | (revert h; simp [*]; done)))); clear h) | (refine ⟨fun h => ?_, fun h => ?_⟩; (focus (exfalso; (first | (with_reducible (cases h; done)) | (revert h; simp; done) | (revert h; simp; omega) | (revert h; simp [*]; done)))); clear h))
  by_cases h1 : x.s.w < m.s.w
  · have hx : rLess x.s m.s = true := by unfold rLess; rw [decide_eq_true h1]; rfl
    repeat (first | (refine ⟨fun h => ?_, fun h => ?_⟩; rotate_left 1; (focus (exfalso; (first | (with_reducible (cases h; done)) | (revert h; simp; done) | (revert h; simp; omega) | (revert h; simp [*]; done)))); clear h) | (refine ⟨fun h => ?_, fun h => ?_⟩; (focus (exfalso; (first | (with_reducible (cases h; done)) | (revert h; simp; done) | (revert h; simp; omega) | (revert h; simp [*]; done)))); clear h))
    (intro z hz; obtain rfl : z = ((k + 1 : Nat) : Int) := (by first | (rw [IntKind.wrap_i64] at hz; omega) | (rw [IntKind.wrap_u64] at hz; omega) | omega); clear hz)
    exact ⟨rfl, k + 1, ⟨by omega, hnext hx⟩, by show l.length - (k + 1) < l.length - k; omega, ⟨rfl, trivial⟩, Ent.refl _, rfl⟩
  repeat (first | (refine ⟨fun h => ?_, fun h => ?_⟩; rotate_left 1; (focus (exfalso; (first | (with_reducible (cases h; done)) | (revert h; simp; done) | (revert h; simp; omega) | (revert h; simp [*]; done)))); clear h) | (refine ⟨fun h => ?_, fun h => ?_⟩; (focus (exfalso; (first | (with_reducible (cases h; done)) | (revert h; simp; done) | (revert h; simp; omega) | (revert h; simp [*]; done)))); clear h))
  refine ⟨by omega, by omega, a, hA, ?_⟩
  repeat (first | (refine ⟨fun h => ?_, fun h => ?_⟩; rotate_left 1; (focus (exfalso; (first | (with_reducible (cases h; done)) | (revert h; simp; done) | (revert h; simp; omega) | (revert h; simp [*]; done)))); clear h) | (refine ⟨fun h => ?_, fun h => ?_⟩; (focus (exfalso; (first | (with_reducible (cases h; done)) | (revert h; simp; done) | (revert h; simp; omega) | (revert h; simp [*]; done)))); clear h))
  refine ⟨_, .inl (fldS (hr 0 _ rfl)), ?_⟩
  repeat (first | (refine ⟨fun h => ?_, fun h => ?_⟩; rotate_left 1; (focus (exfalso; (first | (with_reducible (cases h; done)) | (revert h; simp; done) | (revert h; simp; omega) | (revert h; simp [*]; done)))); clear h) | (refine ⟨fun h => ?_, fun h => ?_⟩; (focus (exfalso; (first | (with_reducible (cases h; done)) | (revert h; simp; done) | (revert h; simp; omega) | (revert h; simp [*]; done)))); clear h))
  refine ⟨_, ld 0 rfl rfl, ?_⟩
  repeat (first | (refine ⟨fun h => ?_, fun h => ?_⟩; rotate_left 1; (focus (exfalso; (first | (with_reducible (cases h; done)) | (revert h; simp; done) | (revert h; simp; omega) | (revert h; simp [*]; done)))); clear h) | (refine ⟨fun h => ?_, fun h => ?_⟩; (focus (exfalso; (first | (with_reducible (cases h; done)) | (revert h; simp; done) | (revert h; simp; omega) | (revert h; simp [*]; done)))); clear h))
  by_cases h2 : x.s.w = m.s.w
  · repeat (first | (refine ⟨fun h => ?_, fun h => ?_⟩; rotate_left 1; (focus (exfalso; (first | (with_reducible (cases h; done)) | (revert h; simp; done) | (revert h; simp; omega) | (revert h; simp [*]; done)))); clear h) | (refine ⟨fun h => ?_, fun h => ?_⟩; (focus (exfalso; (first | (with_reducible (cases h; done)) | (revert h; simp; done) | (revert h; simp; omega) | (revert h; simp [*]; done)))); clear h))
    refine ⟨by omega, by omega, a, hA, ?_⟩
    repeat (first | (refine ⟨fun h => ?_, fun h => ?_⟩; rotate_left 1; (focus (exfalso; (first | (with_reducible (cases h; done)) | (revert h; simp; done) | (revert h; simp; omega) | (revert h; simp [*]; done)))); clear h) | (refine ⟨fun h => ?_, fun h => ?_⟩; (focus (exfalso; (first | (with_reducible (cases h; done)) | (revert h; simp; done) | (revert h; simp; omega) | (revert h; simp [*]; done)))); clear h))
    refine ⟨_, .inl (fldS (hr 1 _ rfl)), ?_⟩
    repeat (first | (refine ⟨fun h => ?_, fun h => ?_⟩; rotate_left 1; (focus (exfalso; (first | (with_reducible (cases h; done)) | (revert h; simp; done) | (revert h; simp; omega) | (revert h; simp [*]; done)))); clear h) | (refine ⟨fun h => ?_, fun h => ?_⟩; (focus (exfalso; (first | (with_reducible (cases h; done)) | (revert h; simp; done) | (revert h; simp; omega) | (revert h; simp [*]; done)))); clear h))
    refine ⟨_, ld 0 rfl rfl, ?_⟩
    repeat (first | (refine ⟨fun h => ?_, fun h => ?_⟩; rotate_left 1; (focus (exfalso; (first | (with_reducible (cases h; done)) | (revert h; simp; done) | (revert h; simp; omega) | (revert h; simp [*]; done)))); clear h) | (refine ⟨fun h => ?_, fun h => ?_⟩; (focus (exfalso; (first | (with_reducible (cases h; done)) | (revert h; simp; done) | (revert h; simp; omega) | (revert h; simp [*]; done)))); clear h))
    by_cases h3 : x.s.q < m.s.q
    · have hx : rLess x.s m.s = true := by unfold rLess; rw [decide_eq_true h2, decide_eq_true h3, Bool.and_self, Bool.or_true]
      repeat (first | (refine ⟨fun h => ?_, fun h => ?_⟩; rotate_left 1; (focus (exfalso; (first | (with_reducible (cases h; done)) | (revert h; simp; done) | (revert h; simp; omega) | (revert h; simp [*]; done)))); clear h) | (refine ⟨fun h => ?_, fun h => ?_⟩; (focus (exfalso; (first | (with_reducible (cases h; done)) | (revert h; simp; done) | (revert h; simp; omega) | (revert h; simp [*]; done)))); clear h))
      (intro z hz; obtain rfl : z = ((k + 1 : Nat) : Int) := (by first | (rw [IntKind.wrap_i64] at hz; omega) | (rw [IntKind.wrap_u64] at hz; omega) | omega); clear hz)
      exact ⟨rfl, k + 1, ⟨by omega, hnext hx⟩, by show l.length - (k + 1) < l.length - k; omega, ⟨rfl, trivial⟩, Ent.refl _, rfl⟩
    · have hend : k = l.length ∨ ∃ y, l[k]? = some y ∧ rLess y.s m.s = false := .inr ⟨x, hget, by unfold rLess; rw [decide_eq_false h1, decide_eq_false h3, Bool.and_false]; rfl⟩
      repeat (first | (refine ⟨fun h => ?_, fun h => ?_⟩; rotate_left 1; (focus (exfalso; (first | (with_reducible (cases h; done)) | (revert h; simp; done) | (revert h; simp; omega) | (revert h; simp [*]; done)))); clear h) | (refine ⟨fun h => ?_, fun h => ?_⟩; (focus (exfalso; (first | (with_reducible (cases h; done)) | (revert h; simp; done) | (revert h; simp; omega) | (revert h; simp [*]; done)))); clear h))
      have hput := rPut_at hk hall hend
      have hlt : (mks (l.take k)).length = (k - 0) * 11 := by rw [mks_length, List.length_take]; congr 1; omega
      have hld : (mks (l.drop k)).length = (l.length - k) * 11 := by rw [mks_length, List.length_drop]
      have hpre4 := SlR.pre (c := Mk.cells) (fun _ => rfl) (by omega) (hs.rh [.blk g3 242 m.cells]) hk hc
      have hsuf4 := SlR.sub (c := Mk.cells) (fun _ => rfl) (by omega) (hs.rh [.blk g3 242 m.cells]) hk (Nat.le_refl _) hc
      rw [show (l.drop k).take (l.length - k) = l.drop k from List.take_of_length_le (by rw [List.length_drop]; omega)] at hsuf4
      have hcount : 0 + (k - 0) + 1 + (l.length - k) = l.length + 1 := by omega
      refine ⟨[0], (.q 1 (.q 2 (.q 3 (.q 5 (.q 8 (.q 9 (.q 10 (.two 0 (.two 4 (.one 6 (.one 7 (.one 11 (.q 12 .nil)))) 6 (.one 4 (.one 7 (.one 11 (.q 12 .nil))))) 6 (.one 0 (.one 4 (.one 7 (.one 11 (.q 12 .nil))))))))))))), by kernel_rfl, ?_⟩
      refine ⟨0, k, rfl, rfl, Nat.zero_le _, by omega, ?_⟩
      refine ⟨m.cells, rdBlk 0 rfl, rfl, ?_⟩
      refine ⟨k, l.length, rfl, rfl, hk, by omega, ?_⟩
      refine ⟨?_, ?_⟩
      · refine ⟨rfl, fun g0 => ?_⟩
        refine ⟨?_, ?_⟩
        · refine ⟨mks (l.take k), hlt, hpre4.srcH, mks_one _, by show (_ + _) * 104 ≤ _; omega, by omega, .inr ⟨0, rfl, rfl, rfl, rfl, rfl, rfl, fun A4 cap4 hg4 => ?_⟩⟩
          refine ⟨rfl, fun g6 => ?_⟩
          refine ⟨m.cells, rfl, rdRow 1 rfl, rfl, by show (_ + _) * 104 ≤ _; omega, by omega, .inr ⟨0, rfl, rfl, rfl, rfl, rfl, rfl, fun A7 cap7 hg7 => ?_⟩⟩
          refine ⟨mks (l.drop k), hld, hsuf4.srcH, mks_one _, by show (_ + _) * 104 ≤ _; omega, by omega, .inr ⟨0, rfl, rfl, rfl, rfl, rfl, rfl, fun A11 cap11 hg11 => ?_⟩⟩
          refine ⟨[.row A11 (l.length + 1) cap11 242 11 (mks (rPut l m)) (0, 0)], ?_, A11, cap11, by rw [← hcount]; exact hg11, by rw [← hcount]; rfl, rfl⟩
          rw [hput, mks_app, ← hcount]
          show Ent _ [.row A11 _ cap11 _ 11 (mks (l.take k) ++ (m.cells ++ mks (l.drop k))) _]
          rw [← List.append_assoc]
          exact Ent.pick [1] rfl
        · refine ⟨rfl, fun g6 => ?_⟩
          refine ⟨mks (l.take k), hlt, hpre4.srcH, mks_one _, by show (_ + _) * 104 ≤ _; omega, by omega, .inr ⟨0, rfl, rfl, rfl, rfl, rfl, rfl, fun A4 cap4 hg4 => ?_⟩⟩
          refine ⟨m.cells, rfl, rdRow 1 rfl, rfl, by show (_ + _) * 104 ≤ _; omega, by omega, .inr ⟨0, rfl, rfl, rfl, rfl, rfl, rfl, fun A7 cap7 hg7 => ?_⟩⟩
          refine ⟨mks (l.drop k), hld, hsuf4.srcH, mks_one _, by show (_ + _) * 104 ≤ _; omega, by omega, .inr ⟨0, rfl, rfl, rfl, rfl, rfl, rfl, fun A11 cap11 hg11 => ?_⟩⟩
          refine ⟨[.row A11 (l.length + 1) cap11 242 11 (mks (rPut l m)) (0, 0)], ?_, A11, cap11, by rw [← hcount]; exact hg11, by rw [← hcount]; rfl, rfl⟩
          rw [hput, mks_app, ← hcount]
          show Ent _ [.row A11 _ cap11 _ 11 (mks (l.take k) ++ (m.cells ++ mks (l.drop k))) _]
          rw [← List.append_assoc]
          exact Ent.pick [1] rfl
      · refine ⟨rfl, fun g6 => ?_⟩
        refine ⟨rfl, fun g0 => ?_⟩
        refine ⟨mks (l.take k), hlt, hpre4.srcH, mks_one _, by show (_ + _) * 104 ≤ _; omega, by omega, .inr ⟨1, rfl, rfl, rfl, rfl, rfl, rfl, fun A4 cap4 hg4 => ?_⟩⟩
        refine ⟨m.cells, rfl, rdRow 0 rfl, rfl, by show (_ + _) * 104 ≤ _; omega, by omega, .inr ⟨1, rfl, rfl, rfl, rfl, rfl, rfl, fun A7 cap7 hg7 => ?_⟩⟩
        refine ⟨mks (l.drop k), hld, hsuf4.srcH, mks_one _, by show (_ + _) * 104 ≤ _; omega, by omega, .inr ⟨1, rfl, rfl, rfl, rfl, rfl, rfl, fun A11 cap11 hg11 => ?_⟩⟩
        refine ⟨[.row A11 (l.length + 1) cap11 242 11 (mks (rPut l m)) (0, 0)], ?_, A11, cap11, by rw [← hcount]; exact hg11, by rw [← hcount]; rfl, rfl⟩
        rw [hput, mks_app, ← hcount]
        show Ent _ [.row A11 _ cap11 _ 11 (mks (l.take k) ++ (m.cells ++ mks (l.drop k))) _]
        rw [← List.append_assoc]
        exact Ent.pick [2] rfl
  · have hend : k = l.length ∨ ∃ y, l[k]? = some y ∧ rLess y.s m.s = false := .inr ⟨x, hget, by unfold rLess; rw [decide_eq_false h1, decide_eq_false h2]; rfl⟩
    repeat (first | (refine ⟨fun h => ?_, fun h => ?_⟩; rotate_left 1; (focus (exfalso; (first | (with_reducible (cases h; done)) | (revert h; simp; done) | (revert h; simp; omega) | (revert h; simp [*]; done)))); clear h) | (refine ⟨fun h => ?_, fun h => ?_⟩; (focus (exfalso; (first | (with_reducible (cases h; done)) | (revert h; simp; done) | (revert h; simp; omega) | (revert h; simp [*]; done)))); clear h))
    have hput := rPut_at hk hall hend
    have hlt : (mks (l.take k)).length = (k - 0) * 11 := by rw [mks_length, List.length_take]; congr 1; omega
    have hld : (mks (l.drop k)).length = (l.length - k) * 11 := by rw [mks_length, List.length_drop]
    have hpre4 := SlR.pre (c := Mk.cells) (fun _ => rfl) (by omega) (hs.rh [.blk g3 242 m.cells]) hk hc
    have hsuf4 := SlR.sub (c := Mk.cells) (fun _ => rfl) (by omega) (hs.rh [.blk g3 242 m.cells]) hk (Nat.le_refl _) hc
    rw [show (l.drop k).take (l.length - k) = l.drop k from List.take_of_length_le (by rw [List.length_drop]; omega)] at hsuf4
    have hcount : 0 + (k - 0) + 1 + (l.length - k) = l.length + 1 := by omega
    refine ⟨[0], (.q 1 (.q 2 (.q 3 (.q 5 (.q 8 (.q 9 (.q 10 (.two 0 (.two 4 (.one 6 (.one 7 (.one 11 (.q 12 .nil)))) 6 (.one 4 (.one 7 (.one 11 (.q 12 .nil))))) 6 (.one 0 (.one 4 (.one 7 (.one 11 (.q 12 .nil))))))))))))), by kernel_rfl, ?_⟩
    refine ⟨0, k, rfl, rfl, Nat.zero_le _, by omega, ?_⟩
    refine ⟨m.cells, rdBlk 0 rfl, rfl, ?_⟩
    refine ⟨k, l.length, rfl, rfl, hk, by omega, ?_⟩
    refine ⟨?_, ?_⟩
    · refine ⟨rfl, fun g0 => ?_⟩
      refine ⟨?_, ?_⟩
      · refine ⟨mks (l.take k), hlt, hpre4.srcH, mks_one _, by show (_ + _) * 104 ≤ _; omega, by omega, .inr ⟨0, rfl, rfl, rfl, rfl, rfl, rfl, fun A4 cap4 hg4 => ?_⟩⟩
        refine ⟨rfl, fun g6 => ?_⟩
        refine ⟨m.cells, rfl, rdRow 1 rfl, rfl, by show (_ + _) * 104 ≤ _; omega, by omega, .inr ⟨0, rfl, rfl, rfl, rfl, rfl, rfl, fun A7 cap7 hg7 => ?_⟩⟩
        refine ⟨mks (l.drop k), hld, hsuf4.srcH, mks_one _, by show (_ + _) * 104 ≤ _; omega, by omega, .inr ⟨0, rfl, rfl, rfl, rfl, rfl, rfl, fun A11 cap11 hg11 => ?_⟩⟩
        refine ⟨[.row A11 (l.length + 1) cap11 242 11 (mks (rPut l m)) (0, 0)], ?_, A11, cap11, by rw [← hcount]; exact hg11, by rw [← hcount]; rfl, rfl⟩
        rw [hput, mks_app, ← hcount]
        show Ent _ [.row A11 _ cap11 _ 11 (mks (l.take k) ++ (m.cells ++ mks (l.drop k))) _]
        rw [← List.append_assoc]
        exact Ent.pick [1] rfl
      · refine ⟨rfl, fun g6 => ?_⟩
        refine ⟨mks (l.take k), hlt, hpre4.srcH, mks_one _, by show (_ + _) * 104 ≤ _; omega, by omega, .inr ⟨0, rfl, rfl, rfl, rfl, rfl, rfl, fun A4 cap4 hg4 => ?_⟩⟩
        refine ⟨m.cells, rfl, rdRow 1 rfl, rfl, by show (_ + _) * 104 ≤ _; omega, by omega, .inr ⟨0, rfl, rfl, rfl, rfl, rfl, rfl, fun A7 cap7 hg7 => ?_⟩⟩
        refine ⟨mks (l.drop k), hld, hsuf4.srcH, mks_one _, by show (_ + _) * 104 ≤ _; omega, by omega, .inr ⟨0, rfl, rfl, rfl, rfl, rfl, rfl, fun A11 cap11 hg11 => ?_⟩⟩
        refine ⟨[.row A11 (l.length + 1) cap11 242 11 (mks (rPut l m)) (0, 0)], ?_, A11, cap11, by rw [← hcount]; exact hg11, by rw [← hcount]; rfl, rfl⟩
        rw [hput, mks_app, ← hcount]
        show Ent _ [.row A11 _ cap11 _ 11 (mks (l.take k) ++ (m.cells ++ mks (l.drop k))) _]
        rw [← List.append_assoc]
        exact Ent.pick [1] rfl
    · refine ⟨rfl, fun g6 => ?_⟩
      refine ⟨rfl, fun g0 => ?_⟩
      refine ⟨mks (l.take k), hlt, hpre4.srcH, mks_one _, by show (_ + _) * 104 ≤ _; omega, by omega, .inr ⟨1, rfl, rfl, rfl, rfl, rfl, rfl, fun A4 cap4 hg4 => ?_⟩⟩
      refine ⟨m.cells, rfl, rdRow 0 rfl, rfl, by show (_ + _) * 104 ≤ _; omega, by omega, .inr ⟨1, rfl, rfl, rfl, rfl, rfl, rfl, fun A7 cap7 hg7 => ?_⟩⟩
      refine ⟨mks (l.drop k), hld, hsuf4.srcH, mks_one _, by show (_ + _) * 104 ≤ _; omega, by omega, .inr ⟨1, rfl, rfl, rfl, rfl, rfl, rfl, fun A11 cap11 hg11 => ?_⟩⟩
      refine ⟨[.row A11 (l.length + 1) cap11 242 11 (mks (rPut l m)) (0, 0)], ?_, A11, cap11, by rw [← hcount]; exact hg11, by rw [← hcount]; rfl, rfl⟩
      rw [hput, mks_app, ← hcount]
      show Ent _ [.row A11 _ cap11 _ 11 (mks (l.take k) ++ (m.cells ++ mks (l.drop k))) _]
      rw [← List.append_assoc]
      exact Ent.pick [2] rfl

end Go.Proofs.YtoddabjacjkjbaaDoor
