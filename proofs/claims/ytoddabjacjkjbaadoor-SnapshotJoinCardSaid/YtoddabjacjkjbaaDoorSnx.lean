/-
  The reference's logs: SameAll, Select, Latest, Forget, Hold, Next, Add.
-/
import Derived.Test.YtoddabjacjkjbaaDoorSnw
namespace Go.Proofs.YtoddabjacjkjbaaDoor
open Go Go.RowKit
set_option linter.unusedVariables false

/-! ### equal lists -/
theorem ext_take {α : Type} {a b : List α} (hl : a.length = b.length) (h : ∀ i, i < a.length → a[i]? = b[i]?) : a = b := by
  apply List.ext_getElem?
  intro i
  by_cases hi : i < a.length
  · exact h i hi
  · rw [List.getElem?_eq_none (by omega), List.getElem?_eq_none (by omega)]
/-! ### Select -/
theorem rSel_step {l : List Mk} {k : Nat} {x : Mk} (h : l[k]? = some x) (w : Int) (r : Bool) : rSel (l.take (k + 1)) w r = rSel (l.take k) w r ++ (if ((decide (w < 0) || decide (x.s.w = w)) && !(r && x.fo)) = true then [x.s] else []) := by
  unfold rSel
  rw [List.take_add_one, h, List.filter_append, List.map_append]
  congr 1
  show List.map Mk.s (List.filter _ [x]) = _
  rw [List.filter_cons]
  split <;> simp_all

/-! ### Latest -/
def rLatest (l : List Mk) (w d : Int) : Snap × Int :=
  match l.reverse.find? fun m => decide (m.s.w = w) && !m.fo && decide (m.s.d ≤ d) with
  | some m => (m.s, 0)
  | .none => (Snap.zero, 4)
theorem find_congr {α : Type} {p q : α → Bool} : ∀ {l : List α}, (∀ x ∈ l, p x = q x) → l.find? p = l.find? q
  | [], _ => rfl
  | x :: l, h => by
    rw [List.find?_cons, List.find?_cons, h x (by simp), find_congr fun y hy => h y (by simp [hy])]
theorem rLatest_flat {C : Lg} (hC : GoodC C) (w d : Int) : rLatest (flatC C) w d = latestC C w d := by
  by_cases hw : 0 ≤ w ∧ w ≤ 11
  · obtain ⟨n, rfl⟩ := Int.eq_ofNat_of_zero_le hw.1
    have hn : n < 12 := by omega
    have e : (flatC C).reverse.find? (fun m => decide (m.s.w = (n : Int)) && !m.fo && decide (m.s.d ≤ d)) = ((C n).reverse.find? fun x => !x.fo && decide (x.s.d ≤ d)).map Rec.mk' := by
      rw [flatC_split C hn, find_rev_mid (fun m hm => by have := flatN_lo hC m hm; rw [decide_eq_false (by omega)]; rfl) (fun m hm => by have := flatN_hi hC m hm; rw [decide_eq_false (by omega)]; rfl), ← List.map_reverse, List.find?_map]
      congr 1
      refine find_congr fun x hx => ?_
      obtain ⟨i, hi⟩ := List.getElem?_of_mem (List.mem_reverse.1 hx)
      have h1 : x.mk'.s.w = (n : Int) := (hC.rcd _ _ _ hi).1
      show (decide (x.mk'.s.w = (n : Int)) && !x.mk'.fo && decide (x.mk'.s.d ≤ d)) = _
      rw [decide_eq_true h1, Bool.true_and]; rfl
    unfold rLatest latestC
    rw [e]
    cases (C n).reverse.find? fun x => !x.fo && decide (x.s.d ≤ d) <;> rfl
  · have e : (flatC C).reverse.find? (fun m => decide (m.s.w = w) && !m.fo && decide (m.s.d ≤ d)) = .none := by
      refine List.find?_eq_none.2 fun m hm => ?_
      obtain ⟨h1, h2, _⟩ := mem_flatC hC (List.mem_reverse.1 hm)
      rw [decide_eq_false (by intro e; exact hw (by omega))]; simp
    unfold rLatest latestC
    rw [e, hC.out w hw]; rfl

set_option maxRecDepth 100000 in
set_option maxHeartbeats 4000000 in
theorem refLatest_ok (R : Rd) {A : Option Addr} {cap : Nat} {l : List Mk} (hs : MkR R A cap l) (hn : l.length ≤ 1000000) (w d : Int) :
    Fn Tryd.prog 135 [.slice A l.length cap, .int .i64 w, .int .i64 d] [] R (fun v h => v = .tuple ⟨[.agg ⟨(rLatest l w d).1.cells⟩, .int .i64 (rLatest l w d).2]⟩ ∧ h = []) := by
  refine fn_of_vc mixed tabOk Tryd.func135 rfl (by kernel_rfl) (Nat.le_of_ble_eq_true rfl) ?_
  intro g
  (intro z hz; obtain rfl := wr_i64 hz (by omega) (by omega); clear hz)
  refine ⟨[none, none, none, none, none, none, none, some 7, some 8, none, none, none, some 12, some 13, some 14, some 15, some 16, some 17, some 18, some 19, some 20, some 21, some 22, some 23, some 24, some 25, some 26, some 27, some 28, some 29, some 30, some 31, some 32, some 33, some 34, some 35, some 36, some 37, some 38, some 39, some 40, some 41, some 42, some 43, some 44, some 45, some 46], [8], Nat, fun k => k ≤ l.length ∧ ∀ (j : Nat) (y : Mk), k ≤ j → l[j]? = some y → (decide (y.s.w = w) && !y.fo && decide (y.s.d ≤ d)) = false, fun k => [.int .i64 ((k : Int) - 1)], fun k => [.blk g 140 Snap.zero.cells], fun k => k,
    l.length, ⟨Nat.le_refl _, fun j y hj hy => by have := (List.getElem?_eq_some_iff.1 hy).1; omega⟩, ⟨rfl, trivial⟩, Ent.refl _, ?_⟩
  rintro k ⟨hk, hall⟩ js
  refine ⟨fun hb0 => ?_, fun hb0 => ?_⟩
  · have hk0 : (0 : Int) ≤ (k : Int) - 1 := of_decide_eq_true hb0
    obtain ⟨i, rfl⟩ : ∃ i, k = i + 1 := ⟨k - 1, by omega⟩
    have hil : i < l.length := by omega
    have hget := List.getElem?_eq_getElem hil
    generalize l[i] = x at hget
    have hii : ((i + 1 : Nat) : Int) - 1 = (i : Int) := by omega
    rw [hii]
    have hnext : (decide (x.s.w = w) && !x.fo && decide (x.s.d ≤ d)) = false → ∀ (j : Nat) (y : Mk), i ≤ j → l[j]? = some y → (decide (y.s.w = w) && !y.fo && decide (y.s.d ≤ d)) = false := fun hx j y hj hy => by
      by_cases hji : j = i
      · subst hji; rw [hget] at hy; cases hy; exact hx
      · exact hall j y (by omega) hy
    obtain ⟨a, rfl, hr⟩ := slr_at (c := Mk.cells) (fun _ => rfl) (by omega) hs hget
    refine ⟨by omega, by omega, a, rfl, ?_⟩
    refine ⟨_, .inl (fldS (hr 0 _ rfl)), ?_⟩
    by_cases h1 : x.s.w = w
    case neg =>
      have hx : (decide (x.s.w = w) && !x.fo && decide (x.s.d ≤ d)) = false := by rw [decide_eq_false h1]; rfl
      repeat (first | (refine ⟨fun h => ?_, fun h => ?_⟩; rotate_left 1; (focus (exfalso; (first | (with_reducible (cases h; done)) | (revert h; simp; done) | (revert h; simp; omega) | (revert h; simp [*]; done)))); clear h) | (refine ⟨fun h => ?_, fun h => ?_⟩; (focus (exfalso; (first | (with_reducible (cases h; done)) | (revert h; simp; done) | (revert h; simp; omega) | (revert h; simp [*]; done)))); clear h))
      (intro z hz; obtain rfl := wr_i64 hz (by omega) (by omega); clear hz)
      exact ⟨rfl, i, ⟨by omega, hnext hx⟩, by show i < i + 1; omega, ⟨rfl, trivial⟩, Ent.refl _, rfl⟩
    repeat (first | (refine ⟨fun h => ?_, fun h => ?_⟩; rotate_left 1; (focus (exfalso; (first | (with_reducible (cases h; done)) | (revert h; simp; done) | (revert h; simp; omega) | (revert h; simp [*]; done)))); clear h) | (refine ⟨fun h => ?_, fun h => ?_⟩; (focus (exfalso; (first | (with_reducible (cases h; done)) | (revert h; simp; done) | (revert h; simp; omega) | (revert h; simp [*]; done)))); clear h))
    refine ⟨by omega, by omega, a, rfl, ?_⟩
    repeat (first | (refine ⟨fun h => ?_, fun h => ?_⟩; rotate_left 1; (focus (exfalso; (first | (with_reducible (cases h; done)) | (revert h; simp; done) | (revert h; simp; omega) | (revert h; simp [*]; done)))); clear h) | (refine ⟨fun h => ?_, fun h => ?_⟩; (focus (exfalso; (first | (with_reducible (cases h; done)) | (revert h; simp; done) | (revert h; simp; omega) | (revert h; simp [*]; done)))); clear h))
    refine ⟨_, .inl (fldS (hr 10 _ rfl)), ?_⟩
    repeat (first | (refine ⟨fun h => ?_, fun h => ?_⟩; rotate_left 1; (focus (exfalso; (first | (with_reducible (cases h; done)) | (revert h; simp; done) | (revert h; simp; omega) | (revert h; simp [*]; done)))); clear h) | (refine ⟨fun h => ?_, fun h => ?_⟩; (focus (exfalso; (first | (with_reducible (cases h; done)) | (revert h; simp; done) | (revert h; simp; omega) | (revert h; simp [*]; done)))); clear h))
    cases hfo : x.fo
    case true =>
      have hx : (decide (x.s.w = w) && !x.fo && decide (x.s.d ≤ d)) = false := by rw [hfo, decide_eq_true h1]; rfl
      repeat (first | (refine ⟨fun h => ?_, fun h => ?_⟩; rotate_left 1; (focus (exfalso; (first | (with_reducible (cases h; done)) | (revert h; simp; done) | (revert h; simp; omega) | (revert h; simp [*]; done)))); clear h) | (refine ⟨fun h => ?_, fun h => ?_⟩; (focus (exfalso; (first | (with_reducible (cases h; done)) | (revert h; simp; done) | (revert h; simp; omega) | (revert h; simp [*]; done)))); clear h))
      (intro z hz; obtain rfl := wr_i64 hz (by omega) (by omega); clear hz)
      exact ⟨rfl, i, ⟨by omega, hnext hx⟩, by show i < i + 1; omega, ⟨rfl, trivial⟩, Ent.refl _, rfl⟩
    repeat (first | (refine ⟨fun h => ?_, fun h => ?_⟩; rotate_left 1; (focus (exfalso; (first | (with_reducible (cases h; done)) | (revert h; simp; done) | (revert h; simp; omega) | (revert h; simp [*]; done)))); clear h) | (refine ⟨fun h => ?_, fun h => ?_⟩; (focus (exfalso; (first | (with_reducible (cases h; done)) | (revert h; simp; done) | (revert h; simp; omega) | (revert h; simp [*]; done)))); clear h))
    refine ⟨by omega, by omega, a, rfl, ?_⟩
    repeat (first | (refine ⟨fun h => ?_, fun h => ?_⟩; rotate_left 1; (focus (exfalso; (first | (with_reducible (cases h; done)) | (revert h; simp; done) | (revert h; simp; omega) | (revert h; simp [*]; done)))); clear h) | (refine ⟨fun h => ?_, fun h => ?_⟩; (focus (exfalso; (first | (with_reducible (cases h; done)) | (revert h; simp; done) | (revert h; simp; omega) | (revert h; simp [*]; done)))); clear h))
    refine ⟨_, .inl (fldS (hr 2 _ rfl)), ?_⟩
    repeat (first | (refine ⟨fun h => ?_, fun h => ?_⟩; rotate_left 1; (focus (exfalso; (first | (with_reducible (cases h; done)) | (revert h; simp; done) | (revert h; simp; omega) | (revert h; simp [*]; done)))); clear h) | (refine ⟨fun h => ?_, fun h => ?_⟩; (focus (exfalso; (first | (with_reducible (cases h; done)) | (revert h; simp; done) | (revert h; simp; omega) | (revert h; simp [*]; done)))); clear h))
    by_cases h3 : x.s.d ≤ d
    case neg =>
      have hx : (decide (x.s.w = w) && !x.fo && decide (x.s.d ≤ d)) = false := by rw [decide_eq_false h3, Bool.and_false]
      repeat (first | (refine ⟨fun h => ?_, fun h => ?_⟩; rotate_left 1; (focus (exfalso; (first | (with_reducible (cases h; done)) | (revert h; simp; done) | (revert h; simp; omega) | (revert h; simp [*]; done)))); clear h) | (refine ⟨fun h => ?_, fun h => ?_⟩; (focus (exfalso; (first | (with_reducible (cases h; done)) | (revert h; simp; done) | (revert h; simp; omega) | (revert h; simp [*]; done)))); clear h))
      (intro z hz; obtain rfl := wr_i64 hz (by omega) (by omega); clear hz)
      exact ⟨rfl, i, ⟨by omega, hnext hx⟩, by show i < i + 1; omega, ⟨rfl, trivial⟩, Ent.refl _, rfl⟩
    have e : rLatest l w d = (x.s, 0) := by
      unfold rLatest
      rw [find_last hget (p := fun m : Mk => decide (m.s.w = w) && !m.fo && decide (m.s.d ≤ d)) (by rw [hfo, decide_eq_true h1, decide_eq_true h3]; rfl) fun j y hj hy => hall j y hj hy]
    repeat (first | (refine ⟨fun h => ?_, fun h => ?_⟩; rotate_left 1; (focus (exfalso; (first | (with_reducible (cases h; done)) | (revert h; simp; done) | (revert h; simp; omega) | (revert h; simp [*]; done)))); clear h) | (refine ⟨fun h => ?_, fun h => ?_⟩; (focus (exfalso; (first | (with_reducible (cases h; done)) | (revert h; simp; done) | (revert h; simp; omega) | (revert h; simp [*]; done)))); clear h))
    refine ⟨by omega, by omega, a, rfl, ?_⟩
    refine ⟨x.s.cells, fun j u hu => .inl (rdnS (vs := x.s.cells) (fun j u hu => hr j u (x.pre hu)) j u hu), rfl, ?_⟩
    refine ⟨rfl, rfl, 0, rfl, rfl, Nat.le_of_ble_eq_true rfl, ?_⟩
    refine ⟨x.s.cells, rdBlk 0 rfl, rfl, ?_⟩
    exact ⟨_, Ent.nil _, by rw [e]; rfl, rfl⟩
  · have hk0 : ¬ (0 : Int) ≤ (k : Int) - 1 := of_decide_eq_false hb0
    obtain rfl : k = 0 := by omega
    refine ⟨rfl, rfl, 0, rfl, rfl, Nat.le_of_ble_eq_true rfl, ?_⟩
    refine ⟨Snap.zero.cells, rdBlk 0 rfl, rfl, ?_⟩
    have e : rLatest l w d = (Snap.zero, 4) := by
      unfold rLatest
      rw [find_no fun j y hy => hall j y (Nat.zero_le _) hy]
    exact ⟨_, Ent.nil _, by rw [e]; rfl, rfl⟩

end Go.Proofs.YtoddabjacjkjbaaDoor
