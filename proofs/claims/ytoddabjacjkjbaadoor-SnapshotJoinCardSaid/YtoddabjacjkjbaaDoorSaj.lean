/-
  Contracts: sameRecord, EqualFunc, merged.
-/
import Derived.Test.YtoddabjacjkjbaaDoorSaf
namespace Go.Proofs.YtoddabjacjkjbaaDoor
open Go Go.RowKit
set_option linter.unusedVariables false

theorem sameRecord_ok (R : Rd) (x y : Rec) : Fn Tryd.prog 87 [.agg ⟨x.cells⟩, .agg ⟨y.cells⟩] [] R (fun v h => v = .bool (decide (x.s = y.s)) ∧ h = []) := by
  refine fn_of_vc mixed tabOk Tryd.func87 rfl (by kernel_rfl) (Nat.le_of_ble_eq_true rfl) ?_
  intro g2 g3
  refine ⟨x.s.cells, rdOff (cs := x.cells) (o := 0) (n := 10) 0 rfl rfl, rfl, ?_⟩
  refine ⟨y.s.cells, rdOff (cs := y.cells) (o := 0) (n := 10) 1 rfl rfl, rfl, ?_⟩
  intro e he
  have h2 : e = decide (x.s = y.s) := by
    rw [Bool.eq_iff_iff, decide_eq_true_iff]
    exact he.trans Snap.cells_iff
  exact ⟨_, Ent.nil _, by rw [← h2]; rfl, rfl⟩

abbrev RcR (R : Rd) (A : Option Addr) (cap : Nat) (l : List Rec) : Prop := SlR R 12 (.slice A l.length cap) l.length (recs l)
theorem recs_one (l : List Rec) : allOne (recs l) = true := by
  refine allOne_of fun u hu => ?_
  obtain ⟨m, _, hm⟩ := List.mem_flatMap.1 hu
  simp only [Rec.cells, List.mem_cons, List.not_mem_nil, or_false] at hm
  rcases hm with rfl | rfl | rfl | rfl | rfl | rfl | rfl | rfl | rfl | rfl | rfl | rfl <;> rfl
theorem recs_app (a b : List Rec) : recs (a ++ b) = recs a ++ recs b := by simp [recs]

set_option maxHeartbeats 2000000 in
theorem EqualFunc_ok (R : Rd) {A B : Option Addr} {capA capB : Nat} {a b : List Rec} (ha : RcR R A capA a) (hb : RcR R B capB b) (hl : a.length = b.length) (hn : a.length ≤ 1000000) :
    Fn Tryd.prog 86 [.slice A a.length capA, .slice B b.length capB, .func (.func 87) #[] #[]] [] R (fun v h => v = .bool (agreeB a b) ∧ h = []) := by
  refine fn_of_vc mixed tabOk Tryd.func86 rfl (by kernel_rfl) (Nat.le_of_ble_eq_true rfl) ?_
  repeat (first | (refine ⟨fun h => ?_, fun h => ?_⟩; rotate_left 1; (focus (exfalso; (first | (with_reducible (cases h; done)) | (revert h; simp; done) | (revert h; simp; omega) | (revert h; simp [*]; done)))); clear h) | (refine ⟨fun h => ?_, fun h => ?_⟩; (focus (exfalso; (first | (with_reducible (cases h; done)) | (revert h; simp; done) | (revert h; simp; omega) | (revert h; simp [*]; done)))); clear h))
  refine ⟨[none, none, none, none, none, none, some 6, some 7, some 8, some 9, none, none, none, none, none, none, none, some 17, some 18, some 19, some 20, some 21, some 22, some 23, some 24, some 25, some 26, some 27, some 28, some 29, some 30, some 31], [17], Nat, fun k => k ≤ a.length ∧ ∀ (i : Nat) (x y : Rec), i < k → a[i]? = some x → b[i]? = some y → x.s = y.s, fun k => [.int .i64 k], fun k => [], fun k => a.length - k,
    0, ⟨Nat.zero_le _, fun i x y hi => by omega⟩, ⟨rfl, trivial⟩, Ent.refl _, ?_⟩
  rintro k ⟨hk, hall⟩ js
  refine ⟨fun hc0 => ?_, fun hc0 => ?_⟩
  · have hc1 := of_decide_eq_true hc0
    have hil : k < a.length := by omega
    clear hc0 hc1
    have hx := List.getElem?_eq_getElem hil
    have hy := List.getElem?_eq_getElem (show k < b.length by omega)
    generalize a[k] = x at hx
    generalize b[k] = y at hy
    obtain ⟨pa, hA, hra⟩ := slr_at (c := Rec.cells) (fun _ => rfl) (by omega) ha hx
    obtain ⟨pb, hB, hrb⟩ := slr_at (c := Rec.cells) (fun _ => rfl) (by omega) hb hy
    refine ⟨by omega, by omega, pa, hA, ?_⟩
    refine ⟨x.cells, fun j u hu => .inl (rdnS (vs := x.cells) (fun j u hu => hra j u hu) j u hu), rfl, ?_⟩
    intro g8
    refine ⟨rfl, rfl, 0, rfl, rfl, Nat.le_of_ble_eq_true rfl, ?_⟩
    refine ⟨by omega, by omega, pb, hB, ?_⟩
    refine ⟨y.cells, fun j u hu => .inl (rdnS (vs := y.cells) (fun j u hu => hrb j u hu) j u hu), rfl, ?_⟩
    intro g9
    refine ⟨rfl, rfl, 1, rfl, rfl, Nat.le_of_ble_eq_true rfl, ?_⟩
    refine ⟨x.cells, rdBlk 0 rfl, rfl, ?_⟩
    refine ⟨y.cells, rdBlk 1 rfl, rfl, ?_⟩
    refine ⟨[], _, sameRecord_ok _ x y, ?_⟩
    rintro _ _ ⟨rfl, rfl⟩
    by_cases hxy : x.s = y.s
    · rw [decide_eq_true hxy]
      repeat (first | (refine ⟨fun h => ?_, fun h => ?_⟩; rotate_left 1; (focus (exfalso; (first | (with_reducible (cases h; done)) | (revert h; simp; done) | (revert h; simp; omega) | (revert h; simp [*]; done)))); clear h) | (refine ⟨fun h => ?_, fun h => ?_⟩; (focus (exfalso; (first | (with_reducible (cases h; done)) | (revert h; simp; done) | (revert h; simp; omega) | (revert h; simp [*]; done)))); clear h))
      (intro z hz; obtain rfl : z = ((k + 1 : Nat) : Int) := (by first | (rw [IntKind.wrap_i64] at hz; omega) | (rw [IntKind.wrap_u64] at hz; omega) | omega); clear hz)
      refine ⟨rfl, k + 1, ⟨hil, fun i u v hi hu hv => ?_⟩, by show a.length - (k + 1) < a.length - k; omega, ⟨rfl, trivial⟩, Ent.nil _, rfl⟩
      by_cases hik : i = k
      · subst hik
        rw [hx] at hu; rw [hy] at hv
        cases hu; cases hv; exact hxy
      · exact hall i u v (by omega) hu hv
    · have hag : agreeB a b = false := by
        cases h : agreeB a b with
        | false => rfl
        | true => exact absurd (agreeB_iff.1 h k x y hx hy) hxy
      rw [decide_eq_false hxy]
      repeat (first | (refine ⟨fun h => ?_, fun h => ?_⟩; rotate_left 1; (focus (exfalso; (first | (with_reducible (cases h; done)) | (revert h; simp; done) | (revert h; simp; omega) | (revert h; simp [*]; done)))); clear h) | (refine ⟨fun h => ?_, fun h => ?_⟩; (focus (exfalso; (first | (with_reducible (cases h; done)) | (revert h; simp; done) | (revert h; simp; omega) | (revert h; simp [*]; done)))); clear h))
      exact ⟨_, Ent.nil _, by rw [hag]; rfl, rfl⟩
  · have hc1 := of_decide_eq_false hc0
    obtain rfl : k = a.length := by omega
    have hag : agreeB a b = true := agreeB_iff.2 fun i x y hx hy => hall i x y (List.getElem?_eq_some_iff.1 hx).1 hx hy
    exact ⟨_, Ent.nil _, by rw [hag]; rfl, rfl⟩

/-! ### merged -/
theorem mrgL_split : ∀ (a b : List Rec), mrgL a b = (mrgL a b).take (min a.length b.length) ++ (a.drop (min a.length b.length) ++ b.drop (min a.length b.length))
  | [], b => by simp [mrgL]
  | x :: a, [] => by simp [mrgL]
  | x :: a, y :: b => by
    have h := mrgL_split a b
    have e : min (x :: a).length (y :: b).length = min a.length b.length + 1 := by simp only [List.length_cons]; omega
    rw [e]
    show mrg1 x y :: mrgL a b = mrg1 x y :: ((mrgL a b).take (min a.length b.length) ++ (a.drop (min a.length b.length) ++ b.drop (min a.length b.length)))
    rw [← h]

set_option maxRecDepth 100000 in
set_option maxHeartbeats 4000000 in
theorem merged_ok (R : Rd) {A B : Option Addr} {capA capB : Nat} {a b : List Rec} (ha : RcR R A capA a) (hb : RcR R B capB b) (hca : a.length ≤ capA) (hcb : b.length ≤ capB) (hna : a.length ≤ 1000000) (hnb : b.length ≤ 1000000) :
    Fn Tryd.prog 88 [.slice A a.length capA, .slice B b.length capB] [] R (fun v h => ∃ A' cap', grow (mrgL a b).length A' ∧ v = .slice A' (mrgL a b).length cap' ∧ h = [.row A' (mrgL a b).length cap' 164 12 (recs (mrgL a b)) (0, 0)]) := by
  have hML := maxLen_eq
  have hmx := mrgL_length a b
  have hsp := mrgL_split a b
  obtain ⟨c, hc⟩ : ∃ c, c = min a.length b.length := ⟨_, rfl⟩
  rw [← hc] at hsp
  refine fn_of_vc mixed tabOk Tryd.func88 rfl (by kernel_rfl) (Nat.le_of_ble_eq_true rfl) ?_
  intro z hz; obtain rfl : z = ((max a.length b.length : Nat) : Int) := by omega
  clear hz
  refine ⟨by omega, by omega, by show (104 : Int) * _ ≤ _; omega, by omega, fun g0 => ?_⟩
  intro z hz; obtain rfl : z = (c : Int) := by omega
  clear hz
  refine ⟨[none, none, none, none, none, some 5, none, some 7, some 8, none, none, none, none, none, none, none, none, none, none, none, none, some 21, some 22, some 23, some 24, some 25, some 26, some 27, some 28, some 29, some 30, some 31, some 32, some 33, some 34, some 35, some 36, some 37, some 38, some 39, some 40, some 41, some 42, some 43, some 44, some 45, some 46, some 47, some 48, some 49, some 50, some 51, some 52, some 53, some 54, some 55, some 56, some 57, some 58, some 59, some 60, some 61, some 62, some 63], [5, 21], Option Addr × Nat × Nat, fun ⟨A', cap', k⟩ => k ≤ c ∧ grow k A', fun ⟨A', cap', k⟩ => [.slice A' k cap', .int .i64 k],
    fun ⟨A', cap', k⟩ => [.row A' k cap' 164 12 (recs ((mrgL a b).take k)) (0, 0)], fun ⟨_, _, k⟩ => c - k, (some ⟨g0, 0, .none⟩, _, 0), ⟨Nat.zero_le _, .inl rfl⟩, ⟨rfl, rfl, trivial⟩, Ent.refl _, ?_⟩
  rintro ⟨A', cap', k⟩ ⟨hk, hg⟩ js
  refine ⟨fun hb0 => ?_, fun hb0 => ?_⟩
  · have hb1 := of_decide_eq_true hb0
    have hil : k < c := by omega
    clear hb0 hb1
    have hx := List.getElem?_eq_getElem (show k < a.length by omega)
    have hy := List.getElem?_eq_getElem (show k < b.length by omega)
    generalize a[k] = x at hx
    generalize b[k] = y at hy
    have htake := List.take_add_one (l := mrgL a b) (i := k)
    rw [mrgL_get, hx, hy] at htake
    have htake : (mrgL a b).take (k + 1) = (mrgL a b).take k ++ [mrg1 x y] := htake
    obtain ⟨pa, hA, hra⟩ := slr_at (c := Rec.cells) (fun _ => rfl) (by omega) ha hx
    obtain ⟨pb, hB, hrb⟩ := slr_at (c := Rec.cells) (fun _ => rfl) (by omega) hb hy
    refine ⟨by omega, by omega, pa, hA, ?_⟩
    refine ⟨x.cells, fun j u hu => .inl (rdnS (vs := x.cells) (fun j u hu => hra j u hu) j u hu), rfl, ?_⟩
    intro g8
    refine ⟨rfl, rfl, 1, rfl, rfl, Nat.le_of_ble_eq_true rfl, ?_⟩
    rw [setRange_full (vs := cls (.agg ⟨x.cells⟩)) (cs := cls ti164.zero) rfl rfl]
    refine ⟨by omega, by omega, pa, hA, ?_⟩
    refine ⟨_, .inl (fldS (hra 10 _ rfl)), ?_⟩
    cases hxf : x.fo
    · repeat (first | (refine ⟨fun h => ?_, fun h => ?_⟩; rotate_left 1; (focus (exfalso; (first | (with_reducible (cases h; done)) | (revert h; simp; done) | (revert h; simp; omega) | (revert h; simp [*]; done)))); clear h) | (refine ⟨fun h => ?_, fun h => ?_⟩; (focus (exfalso; (first | (with_reducible (cases h; done)) | (revert h; simp; done) | (revert h; simp; omega) | (revert h; simp [*]; done)))); clear h))
      refine ⟨by omega, by omega, pb, hB, ?_⟩
      repeat (first | (refine ⟨fun h => ?_, fun h => ?_⟩; rotate_left 1; (focus (exfalso; (first | (with_reducible (cases h; done)) | (revert h; simp; done) | (revert h; simp; omega) | (revert h; simp [*]; done)))); clear h) | (refine ⟨fun h => ?_, fun h => ?_⟩; (focus (exfalso; (first | (with_reducible (cases h; done)) | (revert h; simp; done) | (revert h; simp; omega) | (revert h; simp [*]; done)))); clear h))
      refine ⟨_, .inl (fldS (hrb 10 _ rfl)), ?_⟩
      repeat (first | (refine ⟨fun h => ?_, fun h => ?_⟩; rotate_left 1; (focus (exfalso; (first | (with_reducible (cases h; done)) | (revert h; simp; done) | (revert h; simp; omega) | (revert h; simp [*]; done)))); clear h) | (refine ⟨fun h => ?_, fun h => ?_⟩; (focus (exfalso; (first | (with_reducible (cases h; done)) | (revert h; simp; done) | (revert h; simp; omega) | (revert h; simp [*]; done)))); clear h))
      refine ⟨rfl, rfl, 1, rfl, rfl, Nat.le_of_ble_eq_true rfl, ?_⟩
      refine ⟨.bool y.fo, ld 1 rfl rfl, ?_⟩
      cases hyf : y.fo
      · repeat (first | (refine ⟨fun h => ?_, fun h => ?_⟩; rotate_left 1; (focus (exfalso; (first | (with_reducible (cases h; done)) | (revert h; simp; done) | (revert h; simp; omega) | (revert h; simp [*]; done)))); clear h) | (refine ⟨fun h => ?_, fun h => ?_⟩; (focus (exfalso; (first | (with_reducible (cases h; done)) | (revert h; simp; done) | (revert h; simp; omega) | (revert h; simp [*]; done)))); clear h))
        refine ⟨by omega, by omega, pa, hA, ?_⟩
        repeat (first | (refine ⟨fun h => ?_, fun h => ?_⟩; rotate_left 1; (focus (exfalso; (first | (with_reducible (cases h; done)) | (revert h; simp; done) | (revert h; simp; omega) | (revert h; simp [*]; done)))); clear h) | (refine ⟨fun h => ?_, fun h => ?_⟩; (focus (exfalso; (first | (with_reducible (cases h; done)) | (revert h; simp; done) | (revert h; simp; omega) | (revert h; simp [*]; done)))); clear h))
        refine ⟨_, .inl (fldS (hra 11 _ rfl)), ?_⟩
        repeat (first | (refine ⟨fun h => ?_, fun h => ?_⟩; rotate_left 1; (focus (exfalso; (first | (with_reducible (cases h; done)) | (revert h; simp; done) | (revert h; simp; omega) | (revert h; simp [*]; done)))); clear h) | (refine ⟨fun h => ?_, fun h => ?_⟩; (focus (exfalso; (first | (with_reducible (cases h; done)) | (revert h; simp; done) | (revert h; simp; omega) | (revert h; simp [*]; done)))); clear h))
        cases hxh : x.he
        · have hm1 : mrg1 x y = ⟨x.s, false, y.he⟩ := by unfold mrg1; rw [hxf, hyf, hxh]; rfl
          repeat (first | (refine ⟨fun h => ?_, fun h => ?_⟩; rotate_left 1; (focus (exfalso; (first | (with_reducible (cases h; done)) | (revert h; simp; done) | (revert h; simp; omega) | (revert h; simp [*]; done)))); clear h) | (refine ⟨fun h => ?_, fun h => ?_⟩; (focus (exfalso; (first | (with_reducible (cases h; done)) | (revert h; simp; done) | (revert h; simp; omega) | (revert h; simp [*]; done)))); clear h))
          refine ⟨by omega, by omega, pb, hB, ?_⟩
          repeat (first | (refine ⟨fun h => ?_, fun h => ?_⟩; rotate_left 1; (focus (exfalso; (first | (with_reducible (cases h; done)) | (revert h; simp; done) | (revert h; simp; omega) | (revert h; simp [*]; done)))); clear h) | (refine ⟨fun h => ?_, fun h => ?_⟩; (focus (exfalso; (first | (with_reducible (cases h; done)) | (revert h; simp; done) | (revert h; simp; omega) | (revert h; simp [*]; done)))); clear h))
          refine ⟨_, .inl (fldS (hrb 11 _ rfl)), ?_⟩
          repeat (first | (refine ⟨fun h => ?_, fun h => ?_⟩; rotate_left 1; (focus (exfalso; (first | (with_reducible (cases h; done)) | (revert h; simp; done) | (revert h; simp; omega) | (revert h; simp [*]; done)))); clear h) | (refine ⟨fun h => ?_, fun h => ?_⟩; (focus (exfalso; (first | (with_reducible (cases h; done)) | (revert h; simp; done) | (revert h; simp; omega) | (revert h; simp [*]; done)))); clear h))
          refine ⟨rfl, rfl, 1, rfl, rfl, Nat.le_of_ble_eq_true rfl, ?_⟩
          refine ⟨(⟨x.s, false, y.he⟩ : Rec).cells, rdBlk 1 rfl, rfl, ?_⟩
          refine ⟨rfl, fun g6 => ?_⟩
          refine ⟨(⟨x.s, false, y.he⟩ : Rec).cells, rfl, rdRow 2 rfl, rfl, by show (_ + _) * 104 ≤ _; omega, by omega, .inr ⟨0, rfl, rfl, rfl, rfl, rfl, rfl, fun A2 cap2 hg2 => ?_⟩⟩
          (intro z hz; obtain rfl : z = ((k + 1 : Nat) : Int) := (by first | (rw [IntKind.wrap_i64] at hz; omega) | (rw [IntKind.wrap_u64] at hz; omega) | omega); clear hz)
          refine ⟨rfl, (A2, cap2, k + 1), ⟨hil, hg2⟩, by show c - (k + 1) < c - k; omega, ⟨rfl, rfl, trivial⟩, ?_, rfl⟩
          show Ent _ [.row A2 (k + 1) cap2 _ 12 (recs ((mrgL a b).take (k + 1))) _]
          rw [htake, hm1, recs_snoc]
          exact Ent.drop [_] [_, _]
        · have hm1 : mrg1 x y = ⟨x.s, false, true⟩ := by unfold mrg1; rw [hxf, hyf, hxh]; rfl
          repeat (first | (refine ⟨fun h => ?_, fun h => ?_⟩; rotate_left 1; (focus (exfalso; (first | (with_reducible (cases h; done)) | (revert h; simp; done) | (revert h; simp; omega) | (revert h; simp [*]; done)))); clear h) | (refine ⟨fun h => ?_, fun h => ?_⟩; (focus (exfalso; (first | (with_reducible (cases h; done)) | (revert h; simp; done) | (revert h; simp; omega) | (revert h; simp [*]; done)))); clear h))
          refine ⟨rfl, rfl, 1, rfl, rfl, Nat.le_of_ble_eq_true rfl, ?_⟩
          refine ⟨(⟨x.s, false, true⟩ : Rec).cells, rdBlk 1 rfl, rfl, ?_⟩
          refine ⟨rfl, fun g6 => ?_⟩
          refine ⟨(⟨x.s, false, true⟩ : Rec).cells, rfl, rdRow 2 rfl, rfl, by show (_ + _) * 104 ≤ _; omega, by omega, .inr ⟨0, rfl, rfl, rfl, rfl, rfl, rfl, fun A2 cap2 hg2 => ?_⟩⟩
          (intro z hz; obtain rfl : z = ((k + 1 : Nat) : Int) := (by first | (rw [IntKind.wrap_i64] at hz; omega) | (rw [IntKind.wrap_u64] at hz; omega) | omega); clear hz)
          refine ⟨rfl, (A2, cap2, k + 1), ⟨hil, hg2⟩, by show c - (k + 1) < c - k; omega, ⟨rfl, rfl, trivial⟩, ?_, rfl⟩
          show Ent _ [.row A2 (k + 1) cap2 _ 12 (recs ((mrgL a b).take (k + 1))) _]
          rw [htake, hm1, recs_snoc]
          exact Ent.drop [_] [_, _]
      · have hm1 : mrg1 x y = ⟨x.s, true, false⟩ := by unfold mrg1; rw [hxf, hyf]; rfl
        repeat (first | (refine ⟨fun h => ?_, fun h => ?_⟩; rotate_left 1; (focus (exfalso; (first | (with_reducible (cases h; done)) | (revert h; simp; done) | (revert h; simp; omega) | (revert h; simp [*]; done)))); clear h) | (refine ⟨fun h => ?_, fun h => ?_⟩; (focus (exfalso; (first | (with_reducible (cases h; done)) | (revert h; simp; done) | (revert h; simp; omega) | (revert h; simp [*]; done)))); clear h))
        refine ⟨rfl, rfl, 1, rfl, rfl, Nat.le_of_ble_eq_true rfl, ?_⟩
        refine ⟨(⟨x.s, true, false⟩ : Rec).cells, rdBlk 1 rfl, rfl, ?_⟩
        refine ⟨rfl, fun g6 => ?_⟩
        refine ⟨(⟨x.s, true, false⟩ : Rec).cells, rfl, rdRow 2 rfl, rfl, by show (_ + _) * 104 ≤ _; omega, by omega, .inr ⟨0, rfl, rfl, rfl, rfl, rfl, rfl, fun A2 cap2 hg2 => ?_⟩⟩
        (intro z hz; obtain rfl : z = ((k + 1 : Nat) : Int) := (by first | (rw [IntKind.wrap_i64] at hz; omega) | (rw [IntKind.wrap_u64] at hz; omega) | omega); clear hz)
        refine ⟨rfl, (A2, cap2, k + 1), ⟨hil, hg2⟩, by show c - (k + 1) < c - k; omega, ⟨rfl, rfl, trivial⟩, ?_, rfl⟩
        show Ent _ [.row A2 (k + 1) cap2 _ 12 (recs ((mrgL a b).take (k + 1))) _]
        rw [htake, hm1, recs_snoc]
        exact Ent.drop [_] [_, _]
    · have hm1 : mrg1 x y = ⟨x.s, true, false⟩ := by unfold mrg1; rw [hxf]; rfl
      repeat (first | (refine ⟨fun h => ?_, fun h => ?_⟩; rotate_left 1; (focus (exfalso; (first | (with_reducible (cases h; done)) | (revert h; simp; done) | (revert h; simp; omega) | (revert h; simp [*]; done)))); clear h) | (refine ⟨fun h => ?_, fun h => ?_⟩; (focus (exfalso; (first | (with_reducible (cases h; done)) | (revert h; simp; done) | (revert h; simp; omega) | (revert h; simp [*]; done)))); clear h))
      refine ⟨rfl, rfl, 1, rfl, rfl, Nat.le_of_ble_eq_true rfl, ?_⟩
      refine ⟨.bool true, ld 1 rfl rfl, ?_⟩
      repeat (first | (refine ⟨fun h => ?_, fun h => ?_⟩; rotate_left 1; (focus (exfalso; (first | (with_reducible (cases h; done)) | (revert h; simp; done) | (revert h; simp; omega) | (revert h; simp [*]; done)))); clear h) | (refine ⟨fun h => ?_, fun h => ?_⟩; (focus (exfalso; (first | (with_reducible (cases h; done)) | (revert h; simp; done) | (revert h; simp; omega) | (revert h; simp [*]; done)))); clear h))
      refine ⟨rfl, rfl, 1, rfl, rfl, Nat.le_of_ble_eq_true rfl, ?_⟩
      refine ⟨(⟨x.s, true, false⟩ : Rec).cells, rdBlk 1 rfl, rfl, ?_⟩
      refine ⟨rfl, fun g6 => ?_⟩
      refine ⟨(⟨x.s, true, false⟩ : Rec).cells, rfl, rdRow 2 rfl, rfl, by show (_ + _) * 104 ≤ _; omega, by omega, .inr ⟨0, rfl, rfl, rfl, rfl, rfl, rfl, fun A2 cap2 hg2 => ?_⟩⟩
      (intro z hz; obtain rfl : z = ((k + 1 : Nat) : Int) := (by first | (rw [IntKind.wrap_i64] at hz; omega) | (rw [IntKind.wrap_u64] at hz; omega) | omega); clear hz)
      refine ⟨rfl, (A2, cap2, k + 1), ⟨hil, hg2⟩, by show c - (k + 1) < c - k; omega, ⟨rfl, rfl, trivial⟩, ?_, rfl⟩
      show Ent _ [.row A2 (k + 1) cap2 _ 12 (recs ((mrgL a b).take (k + 1))) _]
      rw [htake, hm1, recs_snoc]
      exact Ent.drop [_] [_, _]
  · have hb1 := of_decide_eq_false hb0
    obtain rfl : k = c := by have hk : k ≤ c := hk; omega
    have hsa := SlR.sub (c := Rec.cells) (fun _ => rfl) (by omega) ha (show k ≤ a.length by omega) (Nat.le_refl _) hca
    have hsb := SlR.sub (c := Rec.cells) (fun _ => rfl) (by omega) hb (show k ≤ b.length by omega) (Nat.le_refl _) hcb
    rw [show (a.drop k).take (a.length - k) = a.drop k from List.take_of_length_le (by rw [List.length_drop]; omega)] at hsa
    rw [show (b.drop k).take (b.length - k) = b.drop k from List.take_of_length_le (by rw [List.length_drop]; omega)] at hsb
    refine ⟨k, a.length, rfl, rfl, by omega, by omega, ?_⟩
    refine ⟨recs (a.drop k), by rw [recs_length, List.length_drop]; rfl, hsa.srcH, recs_one _, by show (_ + _) * 104 ≤ _; omega, by omega, .inr ⟨0, rfl, rfl, rfl, rfl, rfl, rfl, fun A2 cap2 hg2 => ?_⟩⟩
    refine ⟨k, b.length, rfl, rfl, by omega, by omega, ?_⟩
    refine ⟨recs (b.drop k), by rw [recs_length, List.length_drop]; rfl, hsb.srcH, recs_one _, by show (_ + _) * 104 ≤ _; omega, by omega, .inr ⟨0, rfl, rfl, rfl, rfl, rfl, rfl, fun A3 cap3 hg3 => ?_⟩⟩
    have e1 : k + (a.length - k) + (b.length - k) = (mrgL a b).length := by omega
    have e2 : recs (mrgL a b) = recs ((mrgL a b).take k) ++ recs (a.drop k) ++ recs (b.drop k) := by
      conv => lhs; rw [hsp]
      rw [recs_app, recs_app, List.append_assoc]
    refine ⟨[.row A3 (k + (a.length - k) + (b.length - k)) cap3 164 12 (recs ((mrgL a b).take k) ++ recs (a.drop k) ++ recs (b.drop k)) (0, 0)], Ent.refl _, A3, cap3, ?_, ?_, ?_⟩
    · rw [← e1]; exact hg3
    · rw [← e1]; rfl
    · rw [e1, ← e2]

end Go.Proofs.YtoddabjacjkjbaaDoor
