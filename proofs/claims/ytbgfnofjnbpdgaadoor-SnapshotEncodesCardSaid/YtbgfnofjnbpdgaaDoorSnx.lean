/-
  The reference's logs: SameAll, Select, Latest, Forget, Hold, Next, Add.
-/
import Derived.Test.YtbgfnofjnbpdgaaDoorSnw
namespace Go.Proofs.YtbgfnofjnbpdgaaDoor
open Go Go.RowKit
set_option linter.unusedVariables false

/-! ### equal lists -/
theorem ext_take {α : Type} {a b : List α} (hl : a.length = b.length) (h : ∀ i, i < a.length → a[i]? = b[i]?) : a = b := by
  apply List.ext_getElem?
  intro i
  by_cases hi : i < a.length
  · exact h i hi
  · rw [List.getElem?_eq_none (by omega), List.getElem?_eq_none (by omega)]
set_option maxHeartbeats 1000000 in
theorem SameAll_ok (R : Rd) {A B : Option Addr} {capA capB : Nat} {a b : List Snap} (ha : SlR R 10 (.slice A a.length capA) a.length (snaps a)) (hb : SlR R 10 (.slice B b.length capB) b.length (snaps b)) (hna : a.length ≤ 1000000) (hnb : b.length ≤ 1000000) :
    Fn Tryd.prog 56 [.slice A a.length capA, .slice B b.length capB] [] R (fun v h => v = .bool (decide (a = b)) ∧ h = []) := by
  refine fn_of_vc mixed tabOk Tryd.func56 rfl (by kernel_rfl) (Nat.le_of_ble_eq_true rfl) ?_
  by_cases hlen : a.length = b.length
  case neg =>
    have hne : ¬ a = b := fun e => hlen (by rw [e])
    repeat (first | (refine ⟨fun h => ?_, fun h => ?_⟩; rotate_left 1; (focus (exfalso; (first | (with_reducible (cases h; done)) | (revert h; simp; done) | (revert h; simp; omega) | (revert h; simp [*]; done)))); clear h) | (refine ⟨fun h => ?_, fun h => ?_⟩; (focus (exfalso; (first | (with_reducible (cases h; done)) | (revert h; simp; done) | (revert h; simp; omega) | (revert h; simp [*]; done)))); clear h))
    exact ⟨_, Ent.refl _, by rw [decide_eq_false hne]; rfl, rfl⟩
  repeat (first | (refine ⟨fun h => ?_, fun h => ?_⟩; rotate_left 1; (focus (exfalso; (first | (with_reducible (cases h; done)) | (revert h; simp; done) | (revert h; simp; omega) | (revert h; simp [*]; done)))); clear h) | (refine ⟨fun h => ?_, fun h => ?_⟩; (focus (exfalso; (first | (with_reducible (cases h; done)) | (revert h; simp; done) | (revert h; simp; omega) | (revert h; simp [*]; done)))); clear h))
  refine ⟨[none, none, none, none, some 4, some 5, none, none, none, none, none, some 11, some 12, some 13, some 14, some 15, some 16, some 17, some 18, some 19, some 20, some 21, some 22, some 23, some 24, some 25], [5], Nat, fun k => k ≤ a.length ∧ ∀ i, i < k → a[i]? = b[i]?, fun k => [.int .i64 k], fun k => [], fun k => a.length - k,
    0, ⟨Nat.zero_le _, fun i hi => by omega⟩, ⟨rfl, trivial⟩, Ent.refl _, ?_⟩
  rintro k ⟨hk, hall⟩ js
  refine ⟨fun hc0 => ?_, fun hc0 => ?_⟩
  · have hc1 := of_decide_eq_true hc0
    have hil : k < a.length := by omega
    clear hc0 hc1
    have hx := List.getElem?_eq_getElem hil
    have hy := List.getElem?_eq_getElem (show k < b.length by omega)
    generalize a[k] = x at hx
    generalize b[k] = y at hy
    obtain ⟨pa, hA, hra⟩ := slr_at (c := Snap.cells) (fun _ => rfl) (by omega) ha hx
    obtain ⟨pb, hB, hrb⟩ := slr_at (c := Snap.cells) (fun _ => rfl) (by omega) hb hy
    refine ⟨[], lexT 0 9, by kernel_rfl, ?_⟩
    refine ⟨by omega, by omega, pa, hA, ?_⟩
    refine ⟨x.cells, fun j u hu => .inl (rdnS (vs := x.cells) (fun j u hu => hra j u hu) j u hu), rfl, ?_⟩
    refine ⟨by omega, by omega, pb, hB, ?_⟩
    refine ⟨y.cells, fun j u hu => .inl (rdnS (vs := y.cells) (fun j u hu => hrb j u hu) j u hu), rfl, ?_⟩
    intro e he
    have he2 : e = true ↔ x = y := he.trans Snap.cells_iff
    cases e
    · have hne : ¬ a = b := fun h => by
        rw [h, hy] at hx
        cases hx
        have := he2.2 rfl
        cases this
      repeat (first | (refine ⟨fun h => ?_, fun h => ?_⟩; rotate_left 1; (focus (exfalso; (first | (with_reducible (cases h; done)) | (revert h; simp; done) | (revert h; simp; omega) | (revert h; simp [*]; done)))); clear h) | (refine ⟨fun h => ?_, fun h => ?_⟩; (focus (exfalso; (first | (with_reducible (cases h; done)) | (revert h; simp; done) | (revert h; simp; omega) | (revert h; simp [*]; done)))); clear h))
      exact ⟨_, Ent.nil _, by rw [decide_eq_false hne]; rfl, rfl⟩
    · have hxy := he2.1 rfl
      repeat (first | (refine ⟨fun h => ?_, fun h => ?_⟩; rotate_left 1; (focus (exfalso; (first | (with_reducible (cases h; done)) | (revert h; simp; done) | (revert h; simp; omega) | (revert h; simp [*]; done)))); clear h) | (refine ⟨fun h => ?_, fun h => ?_⟩; (focus (exfalso; (first | (with_reducible (cases h; done)) | (revert h; simp; done) | (revert h; simp; omega) | (revert h; simp [*]; done)))); clear h))
      (intro z hz; obtain rfl : z = ((k + 1 : Nat) : Int) := (by first | (rw [IntKind.wrap_i64] at hz; omega) | (rw [IntKind.wrap_u64] at hz; omega) | omega); clear hz)
      refine ⟨rfl, k + 1, ⟨hil, fun i hi => ?_⟩, by show a.length - (k + 1) < a.length - k; omega, ⟨rfl, trivial⟩, Ent.refl _, rfl⟩
      by_cases hik : i = k
      · rw [hik, hx, hy, hxy]
      · exact hall i (by omega)
  · have hc1 := of_decide_eq_false hc0
    obtain rfl : k = a.length := by omega
    exact ⟨_, Ent.refl _, by rw [decide_eq_true (ext_take hlen hall)]; rfl, rfl⟩

/-! ### Select -/
theorem rSel_step {l : List Mk} {k : Nat} {x : Mk} (h : l[k]? = some x) (w : Int) (r : Bool) : rSel (l.take (k + 1)) w r = rSel (l.take k) w r ++ (if ((decide (w < 0) || decide (x.s.w = w)) && !(r && x.fo)) = true then [x.s] else []) := by
  unfold rSel
  rw [List.take_add_one, h, List.filter_append, List.map_append]
  congr 1
  show List.map Mk.s (List.filter _ [x]) = _
  rw [List.filter_cons]
  split <;> simp_all

set_option maxRecDepth 100000 in
set_option maxHeartbeats 4000000 in
theorem refSelect_ok (R : Rd) {A : Option Addr} {cap : Nat} {l : List Mk} (hs : MkR R A cap l) (hn : l.length ≤ 1000000) (w : Int) (r : Bool) :
    Fn Tryd.prog 57 [.slice A l.length cap, .int .i64 w, .bool r] [] R (fun v h => OwnSn v (rSel l w r) h) := by
  have hML := maxLen_eq
  refine fn_of_vc mixed tabOk Tryd.func57 rfl (by kernel_rfl) (Nat.le_of_ble_eq_true rfl) ?_
  refine ⟨rfl, fun g0 => ?_⟩
  refine ⟨[none, none, none, none, none, none, none, some 7, some 8, none, some 10, some 11, some 12, some 13, some 14, some 15, some 16, some 17, some 18, some 19, some 20, some 21, some 22, some 23, some 24, some 25, some 26, some 27, some 28, some 29, some 30, some 31, some 32, some 33, some 34, some 35, some 36, some 37, some 38, some 39, some 40, some 41, some 42, some 43, some 44, some 45, some 46], [7, 8], Option Addr × Nat × Nat × Nat, fun ⟨A', cap', n, k⟩ => k ≤ l.length ∧ n = (rSel (l.take k) w r).length ∧ grow n A', fun ⟨A', cap', n, k⟩ => [.slice A' n cap', .int .i64 k],
    fun ⟨A', cap', n, k⟩ => [.row A' n cap' 34 10 (snaps (rSel (l.take k) w r)) (0, 0)], fun ⟨_, _, _, k⟩ => l.length - k, (some ⟨g0, 0, .none⟩, 0, 0, 0), ⟨Nat.zero_le _, rfl, .inl rfl⟩, ⟨rfl, rfl, trivial⟩, Ent.refl _, ?_⟩
  rintro ⟨A', cap', n, k⟩ ⟨hk, hn2, hg⟩ js
  have hnl : n ≤ 1000000 := by
    have h1 := rSel_length (l.take k) w r
    rw [List.length_take] at h1
    have hn2 : n = (rSel (l.take k) w r).length := hn2
    omega
  refine ⟨fun hb => ?_, fun hb => ?_⟩
  · replace hb := of_decide_eq_true hb
    have hil : k < l.length := by omega
    clear hb
    have hget := List.getElem?_eq_getElem hil
    generalize l[k] = x at hget
    obtain ⟨a, rfl, hr⟩ := slr_at (c := Mk.cells) (fun _ => rfl) (by omega) hs hget
    by_cases h0 : w < 0
    · have hd : (decide (w < 0) || decide (x.s.w = w)) = true := by rw [decide_eq_true h0]; rfl
      repeat (first | (refine ⟨fun h => ?_, fun h => ?_⟩; rotate_left 1; (focus (exfalso; (first | (with_reducible (cases h; done)) | (revert h; simp; done) | (revert h; simp; omega) | (revert h; simp [*]; done)))); clear h) | (refine ⟨fun h => ?_, fun h => ?_⟩; (focus (exfalso; (first | (with_reducible (cases h; done)) | (revert h; simp; done) | (revert h; simp; omega) | (revert h; simp [*]; done)))); clear h))
      cases r
      · have hc : ((decide (w < 0) || decide (x.s.w = w)) && !(false && x.fo)) = true := by rw [hd]; rfl
        repeat (first | (refine ⟨fun h => ?_, fun h => ?_⟩; rotate_left 1; (focus (exfalso; (first | (with_reducible (cases h; done)) | (revert h; simp; done) | (revert h; simp; omega) | (revert h; simp [*]; done)))); clear h) | (refine ⟨fun h => ?_, fun h => ?_⟩; (focus (exfalso; (first | (with_reducible (cases h; done)) | (revert h; simp; done) | (revert h; simp; omega) | (revert h; simp [*]; done)))); clear h))
        have hstep := rSel_step hget w false
        rw [hc] at hstep
        refine ⟨by omega, by omega, a, rfl, ?_⟩
        refine ⟨x.s.cells, fun j u hu => .inl (rdnS (vs := x.s.cells) (fun j u hu => hr j u (x.pre hu)) j u hu), rfl, ?_⟩
        refine ⟨rfl, fun g8 => ?_⟩
        refine ⟨x.s.cells, rfl, rdRow 1 rfl, rfl, by show (_ + _) * 96 ≤ _; omega, by omega, .inr ⟨0, rfl, rfl, rfl, rfl, rfl, rfl, fun A2 cap2 hg2 => ?_⟩⟩
        (intro z hz; obtain rfl : z = ((k + 1 : Nat) : Int) := (by first | (rw [IntKind.wrap_i64] at hz; omega) | (rw [IntKind.wrap_u64] at hz; omega) | omega); clear hz)
        refine ⟨rfl, (A2, cap2, n + 1, k + 1), ⟨hil, by rw [hstep, hn2]; simp, hg2⟩, by show l.length - (k + 1) < l.length - k; omega, ⟨rfl, rfl, trivial⟩, ?_, rfl⟩
        show Ent _ [.row A2 (n + 1) cap2 _ 10 (snaps (rSel (l.take (k + 1)) w false)) _]
        rw [hstep, if_pos rfl, snaps_snoc]
        exact Ent.drop [_] [_]
      · repeat (first | (refine ⟨fun h => ?_, fun h => ?_⟩; rotate_left 1; (focus (exfalso; (first | (with_reducible (cases h; done)) | (revert h; simp; done) | (revert h; simp; omega) | (revert h; simp [*]; done)))); clear h) | (refine ⟨fun h => ?_, fun h => ?_⟩; (focus (exfalso; (first | (with_reducible (cases h; done)) | (revert h; simp; done) | (revert h; simp; omega) | (revert h; simp [*]; done)))); clear h))
        refine ⟨by omega, by omega, a, rfl, ?_⟩
        repeat (first | (refine ⟨fun h => ?_, fun h => ?_⟩; rotate_left 1; (focus (exfalso; (first | (with_reducible (cases h; done)) | (revert h; simp; done) | (revert h; simp; omega) | (revert h; simp [*]; done)))); clear h) | (refine ⟨fun h => ?_, fun h => ?_⟩; (focus (exfalso; (first | (with_reducible (cases h; done)) | (revert h; simp; done) | (revert h; simp; omega) | (revert h; simp [*]; done)))); clear h))
        refine ⟨_, .inl (fldS (hr 10 _ rfl)), ?_⟩
        repeat (first | (refine ⟨fun h => ?_, fun h => ?_⟩; rotate_left 1; (focus (exfalso; (first | (with_reducible (cases h; done)) | (revert h; simp; done) | (revert h; simp; omega) | (revert h; simp [*]; done)))); clear h) | (refine ⟨fun h => ?_, fun h => ?_⟩; (focus (exfalso; (first | (with_reducible (cases h; done)) | (revert h; simp; done) | (revert h; simp; omega) | (revert h; simp [*]; done)))); clear h))
        cases hfo : x.fo
        · have hc : ((decide (w < 0) || decide (x.s.w = w)) && !(true && x.fo)) = true := by rw [hd, hfo]; rfl
          repeat (first | (refine ⟨fun h => ?_, fun h => ?_⟩; rotate_left 1; (focus (exfalso; (first | (with_reducible (cases h; done)) | (revert h; simp; done) | (revert h; simp; omega) | (revert h; simp [*]; done)))); clear h) | (refine ⟨fun h => ?_, fun h => ?_⟩; (focus (exfalso; (first | (with_reducible (cases h; done)) | (revert h; simp; done) | (revert h; simp; omega) | (revert h; simp [*]; done)))); clear h))
          have hstep := rSel_step hget w true
          rw [hc] at hstep
          refine ⟨by omega, by omega, a, rfl, ?_⟩
          refine ⟨x.s.cells, fun j u hu => .inl (rdnS (vs := x.s.cells) (fun j u hu => hr j u (x.pre hu)) j u hu), rfl, ?_⟩
          refine ⟨rfl, fun g8 => ?_⟩
          refine ⟨x.s.cells, rfl, rdRow 1 rfl, rfl, by show (_ + _) * 96 ≤ _; omega, by omega, .inr ⟨0, rfl, rfl, rfl, rfl, rfl, rfl, fun A2 cap2 hg2 => ?_⟩⟩
          (intro z hz; obtain rfl : z = ((k + 1 : Nat) : Int) := (by first | (rw [IntKind.wrap_i64] at hz; omega) | (rw [IntKind.wrap_u64] at hz; omega) | omega); clear hz)
          refine ⟨rfl, (A2, cap2, n + 1, k + 1), ⟨hil, by rw [hstep, hn2]; simp, hg2⟩, by show l.length - (k + 1) < l.length - k; omega, ⟨rfl, rfl, trivial⟩, ?_, rfl⟩
          show Ent _ [.row A2 (n + 1) cap2 _ 10 (snaps (rSel (l.take (k + 1)) w true)) _]
          rw [hstep, if_pos rfl, snaps_snoc]
          exact Ent.drop [_] [_]
        · have hc : ((decide (w < 0) || decide (x.s.w = w)) && !(true && x.fo)) = false := by rw [hd, hfo]; rfl
          repeat (first | (refine ⟨fun h => ?_, fun h => ?_⟩; rotate_left 1; (focus (exfalso; (first | (with_reducible (cases h; done)) | (revert h; simp; done) | (revert h; simp; omega) | (revert h; simp [*]; done)))); clear h) | (refine ⟨fun h => ?_, fun h => ?_⟩; (focus (exfalso; (first | (with_reducible (cases h; done)) | (revert h; simp; done) | (revert h; simp; omega) | (revert h; simp [*]; done)))); clear h))
          have hstep := rSel_step hget w true
          rw [hc] at hstep
          (intro z hz; obtain rfl : z = ((k + 1 : Nat) : Int) := (by first | (rw [IntKind.wrap_i64] at hz; omega) | (rw [IntKind.wrap_u64] at hz; omega) | omega); clear hz)
          refine ⟨rfl, (A', cap', n, k + 1), ⟨hil, by rw [hstep, hn2]; simp, hg⟩, by show l.length - (k + 1) < l.length - k; omega, ⟨rfl, rfl, trivial⟩, ?_, rfl⟩
          show Ent _ [.row A' n cap' _ 10 (snaps (rSel (l.take (k + 1)) w true)) _]
          rw [hstep, if_neg (by decide), List.append_nil]
          exact Ent.refl _
    · repeat (first | (refine ⟨fun h => ?_, fun h => ?_⟩; rotate_left 1; (focus (exfalso; (first | (with_reducible (cases h; done)) | (revert h; simp; done) | (revert h; simp; omega) | (revert h; simp [*]; done)))); clear h) | (refine ⟨fun h => ?_, fun h => ?_⟩; (focus (exfalso; (first | (with_reducible (cases h; done)) | (revert h; simp; done) | (revert h; simp; omega) | (revert h; simp [*]; done)))); clear h))
      refine ⟨by omega, by omega, a, rfl, ?_⟩
      repeat (first | (refine ⟨fun h => ?_, fun h => ?_⟩; rotate_left 1; (focus (exfalso; (first | (with_reducible (cases h; done)) | (revert h; simp; done) | (revert h; simp; omega) | (revert h; simp [*]; done)))); clear h) | (refine ⟨fun h => ?_, fun h => ?_⟩; (focus (exfalso; (first | (with_reducible (cases h; done)) | (revert h; simp; done) | (revert h; simp; omega) | (revert h; simp [*]; done)))); clear h))
      refine ⟨_, .inl (fldS (hr 0 _ rfl)), ?_⟩
      repeat (first | (refine ⟨fun h => ?_, fun h => ?_⟩; rotate_left 1; (focus (exfalso; (first | (with_reducible (cases h; done)) | (revert h; simp; done) | (revert h; simp; omega) | (revert h; simp [*]; done)))); clear h) | (refine ⟨fun h => ?_, fun h => ?_⟩; (focus (exfalso; (first | (with_reducible (cases h; done)) | (revert h; simp; done) | (revert h; simp; omega) | (revert h; simp [*]; done)))); clear h))
      by_cases h1 : x.s.w = w
      · have hd : (decide (w < 0) || decide (x.s.w = w)) = true := by rw [decide_eq_true h1, Bool.or_true]
        repeat (first | (refine ⟨fun h => ?_, fun h => ?_⟩; rotate_left 1; (focus (exfalso; (first | (with_reducible (cases h; done)) | (revert h; simp; done) | (revert h; simp; omega) | (revert h; simp [*]; done)))); clear h) | (refine ⟨fun h => ?_, fun h => ?_⟩; (focus (exfalso; (first | (with_reducible (cases h; done)) | (revert h; simp; done) | (revert h; simp; omega) | (revert h; simp [*]; done)))); clear h))
        cases r
        · have hc : ((decide (w < 0) || decide (x.s.w = w)) && !(false && x.fo)) = true := by rw [hd]; rfl
          repeat (first | (refine ⟨fun h => ?_, fun h => ?_⟩; rotate_left 1; (focus (exfalso; (first | (with_reducible (cases h; done)) | (revert h; simp; done) | (revert h; simp; omega) | (revert h; simp [*]; done)))); clear h) | (refine ⟨fun h => ?_, fun h => ?_⟩; (focus (exfalso; (first | (with_reducible (cases h; done)) | (revert h; simp; done) | (revert h; simp; omega) | (revert h; simp [*]; done)))); clear h))
          have hstep := rSel_step hget w false
          rw [hc] at hstep
          refine ⟨by omega, by omega, a, rfl, ?_⟩
          refine ⟨x.s.cells, fun j u hu => .inl (rdnS (vs := x.s.cells) (fun j u hu => hr j u (x.pre hu)) j u hu), rfl, ?_⟩
          refine ⟨rfl, fun g8 => ?_⟩
          refine ⟨x.s.cells, rfl, rdRow 1 rfl, rfl, by show (_ + _) * 96 ≤ _; omega, by omega, .inr ⟨0, rfl, rfl, rfl, rfl, rfl, rfl, fun A2 cap2 hg2 => ?_⟩⟩
          (intro z hz; obtain rfl : z = ((k + 1 : Nat) : Int) := (by first | (rw [IntKind.wrap_i64] at hz; omega) | (rw [IntKind.wrap_u64] at hz; omega) | omega); clear hz)
          refine ⟨rfl, (A2, cap2, n + 1, k + 1), ⟨hil, by rw [hstep, hn2]; simp, hg2⟩, by show l.length - (k + 1) < l.length - k; omega, ⟨rfl, rfl, trivial⟩, ?_, rfl⟩
          show Ent _ [.row A2 (n + 1) cap2 _ 10 (snaps (rSel (l.take (k + 1)) w false)) _]
          rw [hstep, if_pos rfl, snaps_snoc]
          exact Ent.drop [_] [_]
        · repeat (first | (refine ⟨fun h => ?_, fun h => ?_⟩; rotate_left 1; (focus (exfalso; (first | (with_reducible (cases h; done)) | (revert h; simp; done) | (revert h; simp; omega) | (revert h; simp [*]; done)))); clear h) | (refine ⟨fun h => ?_, fun h => ?_⟩; (focus (exfalso; (first | (with_reducible (cases h; done)) | (revert h; simp; done) | (revert h; simp; omega) | (revert h; simp [*]; done)))); clear h))
          refine ⟨by omega, by omega, a, rfl, ?_⟩
          repeat (first | (refine ⟨fun h => ?_, fun h => ?_⟩; rotate_left 1; (focus (exfalso; (first | (with_reducible (cases h; done)) | (revert h; simp; done) | (revert h; simp; omega) | (revert h; simp [*]; done)))); clear h) | (refine ⟨fun h => ?_, fun h => ?_⟩; (focus (exfalso; (first | (with_reducible (cases h; done)) | (revert h; simp; done) | (revert h; simp; omega) | (revert h; simp [*]; done)))); clear h))
          refine ⟨_, .inl (fldS (hr 10 _ rfl)), ?_⟩
          repeat (first | (refine ⟨fun h => ?_, fun h => ?_⟩; rotate_left 1; (focus (exfalso; (first | (with_reducible (cases h; done)) | (revert h; simp; done) | (revert h; simp; omega) | (revert h; simp [*]; done)))); clear h) | (refine ⟨fun h => ?_, fun h => ?_⟩; (focus (exfalso; (first | (with_reducible (cases h; done)) | (revert h; simp; done) | (revert h; simp; omega) | (revert h; simp [*]; done)))); clear h))
          cases hfo : x.fo
          · have hc : ((decide (w < 0) || decide (x.s.w = w)) && !(true && x.fo)) = true := by rw [hd, hfo]; rfl
            repeat (first | (refine ⟨fun h => ?_, fun h => ?_⟩; rotate_left 1; (focus (exfalso; (first | (with_reducible (cases h; done)) | (revert h; simp; done) | (revert h; simp; omega) | (revert h; simp [*]; done)))); clear h) | (refine ⟨fun h => ?_, fun h => ?_⟩; (focus (exfalso; (first | (with_reducible (cases h; done)) | (revert h; simp; done) | (revert h; simp; omega) | (revert h; simp [*]; done)))); clear h))
            have hstep := rSel_step hget w true
            rw [hc] at hstep
            refine ⟨by omega, by omega, a, rfl, ?_⟩
            refine ⟨x.s.cells, fun j u hu => .inl (rdnS (vs := x.s.cells) (fun j u hu => hr j u (x.pre hu)) j u hu), rfl, ?_⟩
            refine ⟨rfl, fun g8 => ?_⟩
            refine ⟨x.s.cells, rfl, rdRow 1 rfl, rfl, by show (_ + _) * 96 ≤ _; omega, by omega, .inr ⟨0, rfl, rfl, rfl, rfl, rfl, rfl, fun A2 cap2 hg2 => ?_⟩⟩
            (intro z hz; obtain rfl : z = ((k + 1 : Nat) : Int) := (by first | (rw [IntKind.wrap_i64] at hz; omega) | (rw [IntKind.wrap_u64] at hz; omega) | omega); clear hz)
            refine ⟨rfl, (A2, cap2, n + 1, k + 1), ⟨hil, by rw [hstep, hn2]; simp, hg2⟩, by show l.length - (k + 1) < l.length - k; omega, ⟨rfl, rfl, trivial⟩, ?_, rfl⟩
            show Ent _ [.row A2 (n + 1) cap2 _ 10 (snaps (rSel (l.take (k + 1)) w true)) _]
            rw [hstep, if_pos rfl, snaps_snoc]
            exact Ent.drop [_] [_]
          · have hc : ((decide (w < 0) || decide (x.s.w = w)) && !(true && x.fo)) = false := by rw [hd, hfo]; rfl
            repeat (first | (refine ⟨fun h => ?_, fun h => ?_⟩; rotate_left 1; (focus (exfalso; (first | (with_reducible (cases h; done)) | (revert h; simp; done) | (revert h; simp; omega) | (revert h; simp [*]; done)))); clear h) | (refine ⟨fun h => ?_, fun h => ?_⟩; (focus (exfalso; (first | (with_reducible (cases h; done)) | (revert h; simp; done) | (revert h; simp; omega) | (revert h; simp [*]; done)))); clear h))
            have hstep := rSel_step hget w true
            rw [hc] at hstep
            (intro z hz; obtain rfl : z = ((k + 1 : Nat) : Int) := (by first | (rw [IntKind.wrap_i64] at hz; omega) | (rw [IntKind.wrap_u64] at hz; omega) | omega); clear hz)
            refine ⟨rfl, (A', cap', n, k + 1), ⟨hil, by rw [hstep, hn2]; simp, hg⟩, by show l.length - (k + 1) < l.length - k; omega, ⟨rfl, rfl, trivial⟩, ?_, rfl⟩
            show Ent _ [.row A' n cap' _ 10 (snaps (rSel (l.take (k + 1)) w true)) _]
            rw [hstep, if_neg (by decide), List.append_nil]
            exact Ent.refl _
      · have hc : ∀ r' : Bool, ((decide (w < 0) || decide (x.s.w = w)) && !(r' && x.fo)) = false := fun r' => by rw [decide_eq_false h0, decide_eq_false h1]; rfl
        replace hc := hc r
        repeat (first | (refine ⟨fun h => ?_, fun h => ?_⟩; rotate_left 1; (focus (exfalso; (first | (with_reducible (cases h; done)) | (revert h; simp; done) | (revert h; simp; omega) | (revert h; simp [*]; done)))); clear h) | (refine ⟨fun h => ?_, fun h => ?_⟩; (focus (exfalso; (first | (with_reducible (cases h; done)) | (revert h; simp; done) | (revert h; simp; omega) | (revert h; simp [*]; done)))); clear h))
        have hstep := rSel_step hget w r
        rw [hc] at hstep
        (intro z hz; obtain rfl : z = ((k + 1 : Nat) : Int) := (by first | (rw [IntKind.wrap_i64] at hz; omega) | (rw [IntKind.wrap_u64] at hz; omega) | omega); clear hz)
        refine ⟨rfl, (A', cap', n, k + 1), ⟨hil, by rw [hstep, hn2]; simp, hg⟩, by show l.length - (k + 1) < l.length - k; omega, ⟨rfl, rfl, trivial⟩, ?_, rfl⟩
        show Ent _ [.row A' n cap' _ 10 (snaps (rSel (l.take (k + 1)) w r)) _]
        rw [hstep, if_neg (by decide), List.append_nil]
        exact Ent.refl _
  · replace hb := of_decide_eq_false hb
    obtain rfl : k = l.length := by omega
    refine ⟨_, Ent.refl _, ?_⟩
    have hn3 : n = (rSel (l.take l.length) w r).length := hn2
    show OwnSn (.slice A' n cap') (rSel l w r) [.row A' n cap' 34 10 (snaps (rSel (l.take l.length) w r)) (0, 0)]
    rw [List.take_length] at hn3 ⊢
    exact OwnSn.of hn3 hg

/-! ### Latest -/
def rLatest (l : List Mk) (w d : Int) : Snap × Int :=
  match l.reverse.find? fun m => decide (m.s.w = w) && !m.fo && decide (m.s.d ≤ d) with
  | some m => (m.s, 0)
  | .none => (Snap.zero, 4)
theorem find_congr {α : Type} {p q : α → Bool} : ∀ {l : List α}, (∀ x ∈ l, p x = q x) → l.find? p = l.find? q
  | [], _ => rfl
  | x :: l, h => by
    rw [List.find?_cons, List.find?_cons, h x (by simp), find_congr fun y hy => h y (by simp [hy])]
theorem rLatest_flat {C : Lg} (hC : GoodC C) (w d : Int) : rLatest (flatC C) w d = latestC C w d := by
  by_cases hw : 0 ≤ w ∧ w ≤ 11
  · obtain ⟨n, rfl⟩ := Int.eq_ofNat_of_zero_le hw.1
    have hn : n < 12 := by omega
    have e : (flatC C).reverse.find? (fun m => decide (m.s.w = (n : Int)) && !m.fo && decide (m.s.d ≤ d)) = ((C n).reverse.find? fun x => !x.fo && decide (x.s.d ≤ d)).map Rec.mk' := by
      rw [flatC_split C hn, find_rev_mid (fun m hm => by have := flatN_lo hC m hm; rw [decide_eq_false (by omega)]; rfl) (fun m hm => by have := flatN_hi hC m hm; rw [decide_eq_false (by omega)]; rfl), ← List.map_reverse, List.find?_map]
      congr 1
      refine find_congr fun x hx => ?_
      obtain ⟨i, hi⟩ := List.getElem?_of_mem (List.mem_reverse.1 hx)
      have h1 : x.mk'.s.w = (n : Int) := (hC.rcd _ _ _ hi).1
      show (decide (x.mk'.s.w = (n : Int)) && !x.mk'.fo && decide (x.mk'.s.d ≤ d)) = _
      rw [decide_eq_true h1, Bool.true_and]; rfl
    unfold rLatest latestC
    rw [e]
    cases (C n).reverse.find? fun x => !x.fo && decide (x.s.d ≤ d) <;> rfl
  · have e : (flatC C).reverse.find? (fun m => decide (m.s.w = w) && !m.fo && decide (m.s.d ≤ d)) = .none := by
      refine List.find?_eq_none.2 fun m hm => ?_
      obtain ⟨h1, h2, _⟩ := mem_flatC hC (List.mem_reverse.1 hm)
      rw [decide_eq_false (by intro e; exact hw (by omega))]; simp
    unfold rLatest latestC
    rw [e, hC.out w hw]; rfl

set_option maxRecDepth 100000 in
set_option maxHeartbeats 4000000 in
theorem refLatest_ok (R : Rd) {A : Option Addr} {cap : Nat} {l : List Mk} (hs : MkR R A cap l) (hn : l.length ≤ 1000000) (w d : Int) :
    Fn Tryd.prog 55 [.slice A l.length cap, .int .i64 w, .int .i64 d] [] R (fun v h => v = .tuple ⟨[.agg ⟨(rLatest l w d).1.cells⟩, .int .i64 (rLatest l w d).2]⟩ ∧ h = []) := by
  refine fn_of_vc mixed tabOk Tryd.func55 rfl (by kernel_rfl) (Nat.le_of_ble_eq_true rfl) ?_
  intro g
  (intro z hz; obtain rfl := wr_i64 hz (by omega) (by omega); clear hz)
  refine ⟨[none, none, none, none, none, none, none, some 7, some 8, none, none, none, some 12, some 13, some 14, some 15, some 16, some 17, some 18, some 19, some 20, some 21, some 22, some 23, some 24, some 25, some 26, some 27, some 28, some 29, some 30, some 31, some 32, some 33, some 34, some 35, some 36, some 37, some 38, some 39, some 40, some 41, some 42, some 43, some 44, some 45, some 46], [8], Nat, fun k => k ≤ l.length ∧ ∀ (j : Nat) (y : Mk), k ≤ j → l[j]? = some y → (decide (y.s.w = w) && !y.fo && decide (y.s.d ≤ d)) = false, fun k => [.int .i64 ((k : Int) - 1)], fun k => [.blk g 34 Snap.zero.cells], fun k => k,
    l.length, ⟨Nat.le_refl _, fun j y hj hy => by have := (List.getElem?_eq_some_iff.1 hy).1; omega⟩, ⟨rfl, trivial⟩, Ent.refl _, ?_⟩
  rintro k ⟨hk, hall⟩ js
  refine ⟨fun hb0 => ?_, fun hb0 => ?_⟩
  · have hk0 : (0 : Int) ≤ (k : Int) - 1 := of_decide_eq_true hb0
    obtain ⟨i, rfl⟩ : ∃ i, k = i + 1 := ⟨k - 1, by omega⟩
    have hil : i < l.length := by omega
    have hget := List.getElem?_eq_getElem hil
    generalize l[i] = x at hget
    have hii : ((i + 1 : Nat) : Int) - 1 = (i : Int) := by omega
    rw [hii]
    have hnext : (decide (x.s.w = w) && !x.fo && decide (x.s.d ≤ d)) = false → ∀ (j : Nat) (y : Mk), i ≤ j → l[j]? = some y → (decide (y.s.w = w) && !y.fo && decide (y.s.d ≤ d)) = false := fun hx j y hj hy => by
      by_cases hji : j = i
      · subst hji; rw [hget] at hy; cases hy; exact hx
      · exact hall j y (by omega) hy
    obtain ⟨a, rfl, hr⟩ := slr_at (c := Mk.cells) (fun _ => rfl) (by omega) hs hget
    refine ⟨by omega, by omega, a, rfl, ?_⟩
    refine ⟨_, .inl (fldS (hr 0 _ rfl)), ?_⟩
    by_cases h1 : x.s.w = w
    case neg =>
      have hx : (decide (x.s.w = w) && !x.fo && decide (x.s.d ≤ d)) = false := by rw [decide_eq_false h1]; rfl
      repeat (first | (refine ⟨fun h => ?_, fun h => ?_⟩; rotate_left 1; (focus (exfalso; (first | (with_reducible (cases h; done)) | (revert h; simp; done) | (revert h; simp; omega) | (revert h; simp [*]; done)))); clear h) | (refine ⟨fun h => ?_, fun h => ?_⟩; (focus (exfalso; (first | (with_reducible (cases h; done)) | (revert h; simp; done) | (revert h; simp; omega) | (revert h; simp [*]; done)))); clear h))
      (intro z hz; obtain rfl := wr_i64 hz (by omega) (by omega); clear hz)
      exact ⟨rfl, i, ⟨by omega, hnext hx⟩, by show i < i + 1; omega, ⟨rfl, trivial⟩, Ent.refl _, rfl⟩
    repeat (first | (refine ⟨fun h => ?_, fun h => ?_⟩; rotate_left 1; (focus (exfalso; (first | (with_reducible (cases h; done)) | (revert h; simp; done) | (revert h; simp; omega) | (revert h; simp [*]; done)))); clear h) | (refine ⟨fun h => ?_, fun h => ?_⟩; (focus (exfalso; (first | (with_reducible (cases h; done)) | (revert h; simp; done) | (revert h; simp; omega) | (revert h; simp [*]; done)))); clear h))
    refine ⟨by omega, by omega, a, rfl, ?_⟩
    repeat (first | (refine ⟨fun h => ?_, fun h => ?_⟩; rotate_left 1; (focus (exfalso; (first | (with_reducible (cases h; done)) | (revert h; simp; done) | (revert h; simp; omega) | (revert h; simp [*]; done)))); clear h) | (refine ⟨fun h => ?_, fun h => ?_⟩; (focus (exfalso; (first | (with_reducible (cases h; done)) | (revert h; simp; done) | (revert h; simp; omega) | (revert h; simp [*]; done)))); clear h))
    refine ⟨_, .inl (fldS (hr 10 _ rfl)), ?_⟩
    repeat (first | (refine ⟨fun h => ?_, fun h => ?_⟩; rotate_left 1; (focus (exfalso; (first | (with_reducible (cases h; done)) | (revert h; simp; done) | (revert h; simp; omega) | (revert h; simp [*]; done)))); clear h) | (refine ⟨fun h => ?_, fun h => ?_⟩; (focus (exfalso; (first | (with_reducible (cases h; done)) | (revert h; simp; done) | (revert h; simp; omega) | (revert h; simp [*]; done)))); clear h))
    cases hfo : x.fo
    case true =>
      have hx : (decide (x.s.w = w) && !x.fo && decide (x.s.d ≤ d)) = false := by rw [hfo, decide_eq_true h1]; rfl
      repeat (first | (refine ⟨fun h => ?_, fun h => ?_⟩; rotate_left 1; (focus (exfalso; (first | (with_reducible (cases h; done)) | (revert h; simp; done) | (revert h; simp; omega) | (revert h; simp [*]; done)))); clear h) | (refine ⟨fun h => ?_, fun h => ?_⟩; (focus (exfalso; (first | (with_reducible (cases h; done)) | (revert h; simp; done) | (revert h; simp; omega) | (revert h; simp [*]; done)))); clear h))
      (intro z hz; obtain rfl := wr_i64 hz (by omega) (by omega); clear hz)
      exact ⟨rfl, i, ⟨by omega, hnext hx⟩, by show i < i + 1; omega, ⟨rfl, trivial⟩, Ent.refl _, rfl⟩
    repeat (first | (refine ⟨fun h => ?_, fun h => ?_⟩; rotate_left 1; (focus (exfalso; (first | (with_reducible (cases h; done)) | (revert h; simp; done) | (revert h; simp; omega) | (revert h; simp [*]; done)))); clear h) | (refine ⟨fun h => ?_, fun h => ?_⟩; (focus (exfalso; (first | (with_reducible (cases h; done)) | (revert h; simp; done) | (revert h; simp; omega) | (revert h; simp [*]; done)))); clear h))
    refine ⟨by omega, by omega, a, rfl, ?_⟩
    repeat (first | (refine ⟨fun h => ?_, fun h => ?_⟩; rotate_left 1; (focus (exfalso; (first | (with_reducible (cases h; done)) | (revert h; simp; done) | (revert h; simp; omega) | (revert h; simp [*]; done)))); clear h) | (refine ⟨fun h => ?_, fun h => ?_⟩; (focus (exfalso; (first | (with_reducible (cases h; done)) | (revert h; simp; done) | (revert h; simp; omega) | (revert h; simp [*]; done)))); clear h))
    refine ⟨_, .inl (fldS (hr 2 _ rfl)), ?_⟩
    repeat (first | (refine ⟨fun h => ?_, fun h => ?_⟩; rotate_left 1; (focus (exfalso; (first | (with_reducible (cases h; done)) | (revert h; simp; done) | (revert h; simp; omega) | (revert h; simp [*]; done)))); clear h) | (refine ⟨fun h => ?_, fun h => ?_⟩; (focus (exfalso; (first | (with_reducible (cases h; done)) | (revert h; simp; done) | (revert h; simp; omega) | (revert h; simp [*]; done)))); clear h))
    by_cases h3 : x.s.d ≤ d
    case neg =>
      have hx : (decide (x.s.w = w) && !x.fo && decide (x.s.d ≤ d)) = false := by rw [decide_eq_false h3, Bool.and_false]
      repeat (first | (refine ⟨fun h => ?_, fun h => ?_⟩; rotate_left 1; (focus (exfalso; (first | (with_reducible (cases h; done)) | (revert h; simp; done) | (revert h; simp; omega) | (revert h; simp [*]; done)))); clear h) | (refine ⟨fun h => ?_, fun h => ?_⟩; (focus (exfalso; (first | (with_reducible (cases h; done)) | (revert h; simp; done) | (revert h; simp; omega) | (revert h; simp [*]; done)))); clear h))
      (intro z hz; obtain rfl := wr_i64 hz (by omega) (by omega); clear hz)
      exact ⟨rfl, i, ⟨by omega, hnext hx⟩, by show i < i + 1; omega, ⟨rfl, trivial⟩, Ent.refl _, rfl⟩
    have e : rLatest l w d = (x.s, 0) := by
      unfold rLatest
      rw [find_last hget (p := fun m : Mk => decide (m.s.w = w) && !m.fo && decide (m.s.d ≤ d)) (by rw [hfo, decide_eq_true h1, decide_eq_true h3]; rfl) fun j y hj hy => hall j y hj hy]
    repeat (first | (refine ⟨fun h => ?_, fun h => ?_⟩; rotate_left 1; (focus (exfalso; (first | (with_reducible (cases h; done)) | (revert h; simp; done) | (revert h; simp; omega) | (revert h; simp [*]; done)))); clear h) | (refine ⟨fun h => ?_, fun h => ?_⟩; (focus (exfalso; (first | (with_reducible (cases h; done)) | (revert h; simp; done) | (revert h; simp; omega) | (revert h; simp [*]; done)))); clear h))
    refine ⟨by omega, by omega, a, rfl, ?_⟩
    refine ⟨x.s.cells, fun j u hu => .inl (rdnS (vs := x.s.cells) (fun j u hu => hr j u (x.pre hu)) j u hu), rfl, ?_⟩
    refine ⟨rfl, rfl, 0, rfl, rfl, Nat.le_of_ble_eq_true rfl, ?_⟩
    refine ⟨x.s.cells, rdBlk 0 rfl, rfl, ?_⟩
    exact ⟨_, Ent.nil _, by rw [e]; rfl, rfl⟩
  · have hk0 : ¬ (0 : Int) ≤ (k : Int) - 1 := of_decide_eq_false hb0
    obtain rfl : k = 0 := by omega
    refine ⟨rfl, rfl, 0, rfl, rfl, Nat.le_of_ble_eq_true rfl, ?_⟩
    refine ⟨Snap.zero.cells, rdBlk 0 rfl, rfl, ?_⟩
    have e : rLatest l w d = (Snap.zero, 4) := by
      unfold rLatest
      rw [find_no fun j y hy => hall j y (Nat.zero_le _) hy]
    exact ⟨_, Ent.nil _, by rw [e]; rfl, rfl⟩

end Go.Proofs.YtbgfnofjnbpdgaaDoor
