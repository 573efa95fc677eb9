/-
  Contract: model.
-/
import Derived.Test.YtoddabjacjkjbaaDoorSab
namespace Go.Proofs.YtoddabjacjkjbaaDoor
open Go Go.RowKit
set_option linter.unusedVariables false

theorem setRange_full {vs cs : List Value} {o : Nat} (ho : o = 0) (h : cs.length = vs.length) : setRange cs o vs = vs := by
  subst ho
  induction vs generalizing cs with
  | nil => exact List.eq_nil_of_length_eq_zero h
  | cons v vs ih =>
    cases cs with
    | nil => cases h
    | cons c cs =>
      show setRange (v :: cs) (0 + 1) vs = _
      rw [setRange_cons, ih (by simpa using h)]

/-! ### the reference over what a log holds -/
section
variable (R : Rd) {A : Option Addr} {cap : Nat} {C : Lg} (hs : MkR R A cap (flatC C)) (hc : (flatC C).length ≤ cap) (hC : GoodC C) (hn : countC C ≤ 4096)
include hs hC hn
theorem refNext_C (w d : Int) (nm : Str) (gn sz fl bt : Int) : Fn Tryd.prog 131 [.slice A (flatC C).length cap, .int .i64 w, .int .i64 d, .agg ⟨[.string ⟨⟨nm⟩⟩, .int .i64 gn, .int .i64 sz]⟩, .int .i64 fl, .int .i64 bt] [] R
      (fun v h => v = .tuple ⟨[.agg ⟨(nextL (lastC (C w)) w d nm gn sz fl bt).1.cells⟩, .int .i64 (nextL (lastC (C w)) w d nm gn sz fl bt).2]⟩ ∧ h = []) := by
  have hl := flatC_length C
  have := refNext_ok R hs (by omega) (flat_valid hC) w d nm gn sz fl bt
  rw [rNext_flat hC] at this
  exact this
theorem refForget_C (w q : Int) : Fn Tryd.prog 133 [.slice A (flatC C).length cap, .int .i64 w, .int .i64 q] [] R (fun v h => ∃ u, v = .tuple ⟨[u, .int .i64 (forgetC C w q).2]⟩ ∧ Nw A cap (flatC C) (flatC (forgetC C w q).1) u h) := by
  have hl := flatC_length C
  have := refForget_ok R hs (by omega) w q
  rw [rForget_flat hC] at this
  exact this
theorem refHold_C (w q : Int) (b : Bool) : Fn Tryd.prog 134 [.slice A (flatC C).length cap, .int .i64 w, .int .i64 q, .bool b] [] R (fun v h => ∃ u, v = .tuple ⟨[u, .int .i64 (holdC C w q b).2]⟩ ∧ Nw A cap (flatC C) (flatC (holdC C w q b).1) u h) := by
  have hl := flatC_length C
  have := refHold_ok R hs (by omega) w q b
  rw [rHold_flat hC] at this
  exact this
theorem refLatest_C (w d : Int) : Fn Tryd.prog 135 [.slice A (flatC C).length cap, .int .i64 w, .int .i64 d] [] R (fun v h => v = .tuple ⟨[.agg ⟨(latestC C w d).1.cells⟩, .int .i64 (latestC C w d).2]⟩ ∧ h = []) := by
  have hl := flatC_length C
  have := refLatest_ok R hs (by omega) w d
  rw [rLatest_flat hC] at this
  exact this
include hc
theorem refAdd_C (s : Snap) (hq1 : -9223372036854775808 ≤ s.q) (hq2 : s.q ≤ 9223372036854775807) : Fn Tryd.prog 132 [.slice A (flatC C).length cap, .agg ⟨s.cells⟩] [] R (fun v h => ∃ u, v = .tuple ⟨[u, .int .i64 (addC C s).2]⟩ ∧ Nw A cap (flatC C) (flatC (addC C s).1) u h) := by
  have hl := flatC_length C
  have := refAdd_ok R hs (by omega) hc (flat_valid hC) s hq1 hq2
  rw [rAdd_flat hC hn] at this
  exact this
end

set_option maxRecDepth 100000 in
set_option maxHeartbeats 8000000 in
theorem model_core (R : Rd) {A : Option Addr} {cap : Nat} {C : Lg} (hs : MkR R A cap (flatC C)) (hc : (flatC C).length ≤ cap) (hC : GoodC C) (hn : countC C ≤ 4096) (x : SOp) (hx : x.s.Ok) :
    Fn Tryd.prog 85 [.slice A (flatC C).length cap, .agg ⟨x.cells⟩] [] R (fun v h => ∃ u, v = .tuple ⟨[u, .agg ⟨(stepC C x).2.1.cells⟩, .int .i64 (stepC C x).2.2]⟩ ∧ Nw A cap (flatC C) (flatC (stepC C x).1) u h) := by
  refine fn_of_vc mixed tabOk Tryd.func85 rfl (by kernel_rfl) (Nat.le_of_ble_eq_true rfl) ?_
  intro g3
  intro g5
  intro g8
  refine ⟨rfl, rfl, 2, rfl, rfl, Nat.le_of_ble_eq_true rfl, ?_⟩
  refine ⟨_, ld 0 rfl rfl, ?_⟩
  by_cases h0 : x.k = 0
  · rw [stepC0 h0]
    repeat (first | (refine ⟨fun h => ?_, fun h => ?_⟩; rotate_left 1; (focus (exfalso; (first | (with_reducible (cases h; done)) | (revert h; simp; done) | (revert h; simp; omega) | (revert h; simp [*]; done)))); clear h) | (refine ⟨fun h => ?_, fun h => ?_⟩; (focus (exfalso; (first | (with_reducible (cases h; done)) | (revert h; simp; done) | (revert h; simp; omega) | (revert h; simp [*]; done)))); clear h))
    refine ⟨_, ld 0 rfl rfl, ?_⟩
    refine ⟨_, ld 0 rfl rfl, ?_⟩
    refine ⟨[.string ⟨⟨x.s.nm⟩⟩, .int .i64 x.s.gn, .int .i64 x.s.sz], rdOff (cs := x.cells) (o := 4) (n := 3) 0 rfl rfl, rfl, ?_⟩
    refine ⟨_, ld 0 rfl rfl, ?_⟩
    refine ⟨_, ld 0 rfl rfl, ?_⟩
    refine ⟨[], _, refNext_C _ (hs.rh _) hC hn x.w x.d x.s.nm x.s.gn x.s.sz x.s.fl x.s.bt, ?_⟩
    have hnv := next_valid (C := C) (w := x.w) (d := x.d) (nm := x.s.nm) (gn := x.s.gn) (sz := x.s.sz) (fl := x.s.fl) (bt := x.s.bt)
    generalize nextL (lastC (C x.w)) x.w x.d x.s.nm x.s.gn x.s.sz x.s.fl x.s.bt = y at *
    obtain ⟨s, e⟩ := y
    rintro _ _ ⟨rfl, rfl⟩
    refine ⟨rfl, rfl, 2, rfl, rfl, Nat.le_of_ble_eq_true rfl, ?_⟩
    rw [setRange_full (vs := cls (.agg ⟨s.cells⟩)) rfl (by rw [length_setRange]; rfl)]
    by_cases he : e = 0
    case neg =>
      rw [if_neg he]
      repeat (first | (refine ⟨fun h => ?_, fun h => ?_⟩; rotate_left 1; (focus (exfalso; (first | (with_reducible (cases h; done)) | (revert h; simp; done) | (revert h; simp; omega) | (revert h; simp [*]; done)))); clear h) | (refine ⟨fun h => ?_, fun h => ?_⟩; (focus (exfalso; (first | (with_reducible (cases h; done)) | (revert h; simp; done) | (revert h; simp; omega) | (revert h; simp [*]; done)))); clear h))
      refine ⟨[2], (.q 0 (.q 1 (.q 2 (.q 3 (.one 4 (.q 5 .nil)))))), by kernel_rfl, ?_⟩
      refine ⟨s.cells, rdBlk 0 rfl, rfl, ?_⟩
      refine ⟨rfl, rfl, 1, rfl, rfl, Nat.le_of_ble_eq_true rfl, ?_⟩
      refine ⟨s.cells, rdBlk 2 rfl, rfl, ?_⟩
      exact ⟨_, Ent.nil _, _, rfl, Nw.old A cap (flatC C)⟩
    rw [if_pos he]
    have hv := (hnv he).q
    repeat (first | (refine ⟨fun h => ?_, fun h => ?_⟩; rotate_left 1; (focus (exfalso; (first | (with_reducible (cases h; done)) | (revert h; simp; done) | (revert h; simp; omega) | (revert h; simp [*]; done)))); clear h) | (refine ⟨fun h => ?_, fun h => ?_⟩; (focus (exfalso; (first | (with_reducible (cases h; done)) | (revert h; simp; done) | (revert h; simp; omega) | (revert h; simp [*]; done)))); clear h))
    refine ⟨_, ld 0 rfl rfl, ?_⟩
    refine ⟨rfl, rfl, 2, rfl, rfl, Nat.le_of_ble_eq_true rfl, ?_⟩
    refine ⟨({ s with hd := x.b } : Snap).cells, rdBlk 2 rfl, rfl, ?_⟩
    refine ⟨[], _, refAdd_C _ (hs.rh _) hc hC hn { s with hd := x.b } (by show _ ≤ s.q; have : 1 ≤ s.q := hv.1; omega) (by show s.q ≤ _; have : s.q ≤ 1099511627776 := hv.2; omega), ?_⟩
    rintro _ _ ⟨u, rfl, hnw⟩
    rcases hnw with ⟨rfl, rfl, hll⟩ | ⟨A', cap', hg', rfl, rfl⟩
    · refine ⟨[2], (.q 0 (.q 1 (.q 2 (.q 3 (.one 4 (.q 5 .nil)))))), by kernel_rfl, ?_⟩
      refine ⟨({ s with hd := x.b } : Snap).cells, rdBlk 0 rfl, rfl, ?_⟩
      refine ⟨rfl, rfl, 1, rfl, rfl, Nat.le_of_ble_eq_true rfl, ?_⟩
      refine ⟨({ s with hd := x.b } : Snap).cells, rdBlk 2 rfl, rfl, ?_⟩
      exact ⟨_, Ent.nil _, _, rfl, .inl ⟨rfl, rfl, hll⟩⟩
    · refine ⟨[2], (.q 0 (.q 1 (.q 2 (.q 3 (.one 4 (.q 5 .nil)))))), by kernel_rfl, ?_⟩
      refine ⟨({ s with hd := x.b } : Snap).cells, rdBlk 0 rfl, rfl, ?_⟩
      refine ⟨rfl, rfl, 1, rfl, rfl, Nat.le_of_ble_eq_true rfl, ?_⟩
      refine ⟨({ s with hd := x.b } : Snap).cells, rdBlk 2 rfl, rfl, ?_⟩
      exact ⟨_, Ent.pick [3] rfl, _, rfl, .inr ⟨A', cap', hg', rfl, rfl⟩⟩
  by_cases h1 : x.k = 1
  · rw [stepC1 h1]
    repeat (first | (refine ⟨fun h => ?_, fun h => ?_⟩; rotate_left 1; (focus (exfalso; (first | (with_reducible (cases h; done)) | (revert h; simp; done) | (revert h; simp; omega) | (revert h; simp [*]; done)))); clear h) | (refine ⟨fun h => ?_, fun h => ?_⟩; (focus (exfalso; (first | (with_reducible (cases h; done)) | (revert h; simp; done) | (revert h; simp; omega) | (revert h; simp [*]; done)))); clear h))
    refine ⟨x.s.cells, rdOff (cs := x.cells) (o := 1) (n := 10) 0 rfl rfl, rfl, ?_⟩
    refine ⟨[], _, refAdd_C _ (hs.rh _) hc hC hn x.s hx.q1 hx.q2, ?_⟩
    rintro _ _ ⟨u, rfl, hnw⟩
    rcases hnw with ⟨rfl, rfl, hll⟩ | ⟨A', cap', hg', rfl, rfl⟩
    · refine ⟨[2], (.q 0 (.q 1 (.q 2 (.q 3 (.one 4 (.q 5 .nil)))))), by kernel_rfl, ?_⟩
      refine ⟨Snap.zero.cells, rdBlk 0 rfl, rfl, ?_⟩
      refine ⟨rfl, rfl, 1, rfl, rfl, Nat.le_of_ble_eq_true rfl, ?_⟩
      refine ⟨Snap.zero.cells, rdBlk 2 rfl, rfl, ?_⟩
      exact ⟨_, Ent.nil _, _, rfl, .inl ⟨rfl, rfl, hll⟩⟩
    · refine ⟨[2], (.q 0 (.q 1 (.q 2 (.q 3 (.one 4 (.q 5 .nil)))))), by kernel_rfl, ?_⟩
      refine ⟨Snap.zero.cells, rdBlk 0 rfl, rfl, ?_⟩
      refine ⟨rfl, rfl, 1, rfl, rfl, Nat.le_of_ble_eq_true rfl, ?_⟩
      refine ⟨Snap.zero.cells, rdBlk 2 rfl, rfl, ?_⟩
      exact ⟨_, Ent.pick [3] rfl, _, rfl, .inr ⟨A', cap', hg', rfl, rfl⟩⟩
  by_cases h2 : x.k = 2
  · rw [stepC2 h2]
    repeat (first | (refine ⟨fun h => ?_, fun h => ?_⟩; rotate_left 1; (focus (exfalso; (first | (with_reducible (cases h; done)) | (revert h; simp; done) | (revert h; simp; omega) | (revert h; simp [*]; done)))); clear h) | (refine ⟨fun h => ?_, fun h => ?_⟩; (focus (exfalso; (first | (with_reducible (cases h; done)) | (revert h; simp; done) | (revert h; simp; omega) | (revert h; simp [*]; done)))); clear h))
    refine ⟨_, ld 0 rfl rfl, ?_⟩
    refine ⟨_, ld 0 rfl rfl, ?_⟩
    refine ⟨[], _, refForget_C _ (hs.rh _) hC hn x.w x.q, ?_⟩
    rintro _ _ ⟨u, rfl, hnw⟩
    rcases hnw with ⟨rfl, rfl, hll⟩ | ⟨A', cap', hg', rfl, rfl⟩
    · refine ⟨[2], (.q 0 (.q 1 (.q 2 (.q 3 (.one 4 (.q 5 .nil)))))), by kernel_rfl, ?_⟩
      refine ⟨Snap.zero.cells, rdBlk 0 rfl, rfl, ?_⟩
      refine ⟨rfl, rfl, 1, rfl, rfl, Nat.le_of_ble_eq_true rfl, ?_⟩
      refine ⟨Snap.zero.cells, rdBlk 2 rfl, rfl, ?_⟩
      exact ⟨_, Ent.nil _, _, rfl, .inl ⟨rfl, rfl, hll⟩⟩
    · refine ⟨[2], (.q 0 (.q 1 (.q 2 (.q 3 (.one 4 (.q 5 .nil)))))), by kernel_rfl, ?_⟩
      refine ⟨Snap.zero.cells, rdBlk 0 rfl, rfl, ?_⟩
      refine ⟨rfl, rfl, 1, rfl, rfl, Nat.le_of_ble_eq_true rfl, ?_⟩
      refine ⟨Snap.zero.cells, rdBlk 2 rfl, rfl, ?_⟩
      exact ⟨_, Ent.pick [3] rfl, _, rfl, .inr ⟨A', cap', hg', rfl, rfl⟩⟩
  by_cases h3 : x.k = 3
  · rw [stepC3 h3]
    repeat (first | (refine ⟨fun h => ?_, fun h => ?_⟩; rotate_left 1; (focus (exfalso; (first | (with_reducible (cases h; done)) | (revert h; simp; done) | (revert h; simp; omega) | (revert h; simp [*]; done)))); clear h) | (refine ⟨fun h => ?_, fun h => ?_⟩; (focus (exfalso; (first | (with_reducible (cases h; done)) | (revert h; simp; done) | (revert h; simp; omega) | (revert h; simp [*]; done)))); clear h))
    refine ⟨_, ld 0 rfl rfl, ?_⟩
    refine ⟨_, ld 0 rfl rfl, ?_⟩
    refine ⟨_, ld 0 rfl rfl, ?_⟩
    refine ⟨[], _, refHold_C _ (hs.rh _) hC hn x.w x.q x.b, ?_⟩
    rintro _ _ ⟨u, rfl, hnw⟩
    rcases hnw with ⟨rfl, rfl, hll⟩ | ⟨A', cap', hg', rfl, rfl⟩
    · refine ⟨[2], (.q 0 (.q 1 (.q 2 (.q 3 (.one 4 (.q 5 .nil)))))), by kernel_rfl, ?_⟩
      refine ⟨Snap.zero.cells, rdBlk 0 rfl, rfl, ?_⟩
      refine ⟨rfl, rfl, 1, rfl, rfl, Nat.le_of_ble_eq_true rfl, ?_⟩
      refine ⟨Snap.zero.cells, rdBlk 2 rfl, rfl, ?_⟩
      exact ⟨_, Ent.nil _, _, rfl, .inl ⟨rfl, rfl, hll⟩⟩
    · refine ⟨[2], (.q 0 (.q 1 (.q 2 (.q 3 (.one 4 (.q 5 .nil)))))), by kernel_rfl, ?_⟩
      refine ⟨Snap.zero.cells, rdBlk 0 rfl, rfl, ?_⟩
      refine ⟨rfl, rfl, 1, rfl, rfl, Nat.le_of_ble_eq_true rfl, ?_⟩
      refine ⟨Snap.zero.cells, rdBlk 2 rfl, rfl, ?_⟩
      exact ⟨_, Ent.pick [3] rfl, _, rfl, .inr ⟨A', cap', hg', rfl, rfl⟩⟩
  rw [stepC4 h0 h1 h2 h3]
  repeat (first | (refine ⟨fun h => ?_, fun h => ?_⟩; rotate_left 1; (focus (exfalso; (first | (with_reducible (cases h; done)) | (revert h; simp; done) | (revert h; simp; omega) | (revert h; simp [*]; done)))); clear h) | (refine ⟨fun h => ?_, fun h => ?_⟩; (focus (exfalso; (first | (with_reducible (cases h; done)) | (revert h; simp; done) | (revert h; simp; omega) | (revert h; simp [*]; done)))); clear h))
  refine ⟨_, ld 0 rfl rfl, ?_⟩
  refine ⟨_, ld 0 rfl rfl, ?_⟩
  refine ⟨[], _, refLatest_C _ (hs.rh _) hC hn x.w x.d, ?_⟩
  generalize latestC C x.w x.d = y at *
  obtain ⟨s, e⟩ := y
  rintro _ _ ⟨rfl, rfl⟩
  refine ⟨rfl, rfl, 2, rfl, rfl, Nat.le_of_ble_eq_true rfl, ?_⟩
  rw [setRange_full (vs := cls (.agg ⟨s.cells⟩)) rfl (by rw [length_setRange]; rfl)]
  refine ⟨[2], (.q 0 (.q 1 (.q 2 (.q 3 (.one 4 (.q 5 .nil)))))), by kernel_rfl, ?_⟩
  refine ⟨s.cells, rdBlk 0 rfl, rfl, ?_⟩
  refine ⟨rfl, rfl, 1, rfl, rfl, Nat.le_of_ble_eq_true rfl, ?_⟩
  refine ⟨s.cells, rdBlk 2 rfl, rfl, ?_⟩
  exact ⟨_, Ent.nil _, _, rfl, Nw.old A cap (flatC C)⟩

/-- The reference's list of what a log holds, and its row. -/
def rowM (A : Option Addr) (cap : Nat) (C : Lg) : HA := .row A (flatC C).length cap 242 11 (mks (flatC C)) (0, 0)
theorem model_ok (R : Rd) {A : Option Addr} {cap : Nat} {C : Lg} (hg : grow (flatC C).length A) (hC : GoodC C) (hn : countC C ≤ 4096) (x : SOp) (hx : x.s.Ok) :
    Fn Tryd.prog 85 [.slice A (flatC C).length cap, .agg ⟨x.cells⟩] [rowM A cap C] R (fun v h => ∃ A' cap', v = .tuple ⟨[.slice A' (flatC (stepC C x).1).length cap', .agg ⟨(stepC C x).2.1.cells⟩, .int .i64 (stepC C x).2.2]⟩ ∧ grow (flatC (stepC C x).1).length A' ∧ h = [rowM A' cap' (stepC C x).1]) := by
  refine fn_row 0 rfl (callable Tryd.func85 rfl (by kernel_rfl)) fun hc _ => Fn.ent (Fn.frame (h := []) (k := [rowM A cap C]) (model_core _ (SlR.own 0 rfl (mks_length _) hg) hc hC hn x hx)) ?_
  rintro _ _ ⟨_, rfl, u, rfl, ⟨rfl, rfl, hll⟩ | ⟨A', cap', hg', rfl, rfl⟩⟩
  · refine ⟨_, Ent.refl _, A, cap, by rw [hll], by rw [hll]; exact hg, ?_⟩
    unfold rowM
    rw [hll]; rfl
  · exact ⟨_, Ent.pick [1] rfl, A', cap', rfl, hg', rfl⟩


end Go.Proofs.YtoddabjacjkjbaaDoor
