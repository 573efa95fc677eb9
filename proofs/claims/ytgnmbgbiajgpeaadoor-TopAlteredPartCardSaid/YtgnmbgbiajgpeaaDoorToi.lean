/-
  Top: the contracts of stripe.Make and stripe.Fits.
-/
import Derived.Test.YtgnmbgbiajgpeaaDoorToh
namespace Go.Proofs.YtgnmbgbiajgpeaaDoor
open Go Go.RowKit
set_option linter.unusedVariables false
set_option linter.unusedSimpArgs false

theorem RefsR.mono {R R' : Rd} {v : Value} {l : List RefD} (h : RefsR R v l) (hr : ∀ a v, R a v → R' a v) : RefsR R' v l := SlR.mono h hr
theorem RefsR.rh {R : Rd} {v : Value} {l : List RefD} (h : RefsR R v l) (hp : Hp) : RefsR (RH R hp) v l := SlR.rh h hp
set_option maxRecDepth 100000 in
theorem CloneR_ok (R : Rd) (l : List RefD) (v : Value) (h1 : 1 ≤ l.length) (hl : l.length ≤ 1000) (hs : RefsR R v l) : Fn Tryd.prog 33 [v] [] R
    (fun v h => ∃ A cap, v = .slice A l.length cap ∧ h = [.row A l.length cap 33 3 (refsC l) (0, 0)] ∧ grow l.length A) := by
  have hML := maxLen_eq
  have hs' := hs
  obtain ⟨hlen, A, cap, rfl, hr⟩ := hs'
  obtain ⟨x, hx⟩ : ∃ x, l[0]? = some x := ⟨_, List.getElem?_eq_getElem (by omega)⟩
  obtain ⟨a, rfl, _⟩ := hs.at_ hx
  refine fn_of_vc mixed tabOk Tryd.func33 rfl (by kernel_rfl) (Nat.le_of_ble_eq_true rfl) ?_
  repeat (first | (refine ⟨fun h => ?_, fun h => ?_⟩; rotate_left 1; (focus (exfalso; (first | (with_reducible (cases h; done)) | (revert h; simp; done) | (revert h; simp; omega) | (revert h; simp [*]; done)))); clear h) | (refine ⟨fun h => ?_, fun h => ?_⟩; (focus (exfalso; (first | (with_reducible (cases h; done)) | (revert h; simp; done) | (revert h; simp; omega) | (revert h; simp [*]; done)))); clear h))
  refine ⟨rfl, fun g => ?_⟩
  refine ⟨refsC l, hlen, ?_, refsC_one l, by show (_ + _) * 32 ≤ _; omega, by omega, .inr ⟨0, rfl, rfl, rfl, rfl, rfl, rfl, fun A' cap' hg' => ?_⟩⟩
  · intro j u hu
    obtain ⟨b, hb, hR⟩ := hr j u hu
    exact ⟨b, hb, .inl hR⟩
  rw [Nat.zero_add] at hg' ⊢
  exact ⟨_, Ent.refl _, A', cap', rfl, rfl, hg'⟩

structure St where
  id : Str
  bk : Nat
  dn : Nat
  tn : Nat
def stpC (s : St) (Rf : Value) : List Value := [.string ⟨⟨s.id⟩⟩, .int .i64 0, .int .i64 s.bk, .int .i64 s.dn, .int .i64 s.tn, Rf]
structure GoodSt (s : St) (l : List RefD) : Prop where
  id32 : s.id.length = 32
  d1 : 1 ≤ s.dn
  d8 : s.dn ≤ 8
  dt : s.dn ≤ s.tn
  t16 : s.tn ≤ 16
  r1 : 1 ≤ l.length
  rd : l.length ≤ s.dn
  refs : GoodRefs l
  cls : ∀ r ∈ l, clsF r.sz.toNat = s.bk
def mkSt (data total len : Nat) (bl : List Str) : St := ⟨rootOf (sumsE (rsE data total bl len)), len, data, total⟩
theorem GoodRefs.cls {l : List RefD} (h : GoodRefs l) {r : RefD} (hr : r ∈ l) : clsV r.sz = (clsF r.sz.toNat, 0) := clsV_in (h.s0 r hr) (h.s1 r hr)
theorem GoodRefs.lo {l : List RefD} (h : GoodRefs l) {r : RefD} (hr : r ∈ l) : -9223372036854775808 ≤ r.sz := by have := h.s0 r hr; omega
set_option maxRecDepth 100000 in
set_option maxHeartbeats 4000000 in
theorem Check_ok (R : Rd) (s : St) (l : List RefD) (Rf : Value) (hg : GoodSt s l) (hs : RefsR R Rf l) : Fn Tryd.prog 34 [.agg ⟨stpC s Rf⟩] [] R (fun v h => v = .int .i64 0 ∧ h = []) := by
  have e1 := hg.id32
  have e2 := hg.d1
  have e3 := hg.d8
  have e4 := hg.dt
  have e5 := hg.t16
  have e6 := hg.r1
  have e7 := hg.rd
  have hne : ¬ l = [] := by rintro rfl; exact absurd e6 (by decide)
  have hs' := hs
  obtain ⟨_, A, cap, rfl, _⟩ := hs'
  refine fn_of_vc mixed tabOk Tryd.func34 rfl (by kernel_rfl) (Nat.le_of_ble_eq_true rfl) ?_
  intro g
  refine ⟨_, ld 0 rfl rfl, ?_⟩
  repeat (first | (refine ⟨fun h => ?_, fun h => ?_⟩; rotate_left 1; (focus (exfalso; (first | (with_reducible (cases h; done)) | (revert h; simp; done) | (revert h; simp; omega) | (revert h; simp [*]; done)))); clear h) | (refine ⟨fun h => ?_, fun h => ?_⟩; (focus (exfalso; (first | (with_reducible (cases h; done)) | (revert h; simp; done) | (revert h; simp; omega) | (revert h; simp [*]; done)))); clear h))
  refine ⟨_, ld 0 rfl rfl, ?_⟩
  repeat (first | (refine ⟨fun h => ?_, fun h => ?_⟩; rotate_left 1; (focus (exfalso; (first | (with_reducible (cases h; done)) | (revert h; simp; done) | (revert h; simp; omega) | (revert h; simp [*]; done)))); clear h) | (refine ⟨fun h => ?_, fun h => ?_⟩; (focus (exfalso; (first | (with_reducible (cases h; done)) | (revert h; simp; done) | (revert h; simp; omega) | (revert h; simp [*]; done)))); clear h))
  refine ⟨_, ld 0 rfl rfl, ?_⟩
  repeat (first | (refine ⟨fun h => ?_, fun h => ?_⟩; rotate_left 1; (focus (exfalso; (first | (with_reducible (cases h; done)) | (revert h; simp; done) | (revert h; simp; omega) | (revert h; simp [*]; done)))); clear h) | (refine ⟨fun h => ?_, fun h => ?_⟩; (focus (exfalso; (first | (with_reducible (cases h; done)) | (revert h; simp; done) | (revert h; simp; omega) | (revert h; simp [*]; done)))); clear h))
  refine ⟨_, ld 0 rfl rfl, ?_⟩
  repeat (first | (refine ⟨fun h => ?_, fun h => ?_⟩; rotate_left 1; (focus (exfalso; (first | (with_reducible (cases h; done)) | (revert h; simp; done) | (revert h; simp; omega) | (revert h; simp [*]; done)))); clear h) | (refine ⟨fun h => ?_, fun h => ?_⟩; (focus (exfalso; (first | (with_reducible (cases h; done)) | (revert h; simp; done) | (revert h; simp; omega) | (revert h; simp [*]; done)))); clear h))
  refine ⟨_, ld 0 rfl rfl, ?_⟩
  repeat (first | (refine ⟨fun h => ?_, fun h => ?_⟩; rotate_left 1; (focus (exfalso; (first | (with_reducible (cases h; done)) | (revert h; simp; done) | (revert h; simp; omega) | (revert h; simp [*]; done)))); clear h) | (refine ⟨fun h => ?_, fun h => ?_⟩; (focus (exfalso; (first | (with_reducible (cases h; done)) | (revert h; simp; done) | (revert h; simp; omega) | (revert h; simp [*]; done)))); clear h))
  refine ⟨[], _, RValid_ok _ s.dn s.tn, ?_⟩
  rintro _ _ ⟨rfl, rfl⟩
  rw [decide_eq_true (show (1 : Int) ≤ s.dn ∧ (s.dn : Int) ≤ 8 ∧ (s.dn : Int) ≤ s.tn ∧ (s.tn : Int) ≤ 16 by omega)]
  repeat (first | (refine ⟨fun h => ?_, fun h => ?_⟩; rotate_left 1; (focus (exfalso; (first | (with_reducible (cases h; done)) | (revert h; simp; done) | (revert h; simp; omega) | (revert h; simp [*]; done)))); clear h) | (refine ⟨fun h => ?_, fun h => ?_⟩; (focus (exfalso; (first | (with_reducible (cases h; done)) | (revert h; simp; done) | (revert h; simp; omega) | (revert h; simp [*]; done)))); clear h))
  refine ⟨_, ld 0 rfl rfl, ?_⟩
  repeat (first | (refine ⟨fun h => ?_, fun h => ?_⟩; rotate_left 1; (focus (exfalso; (first | (with_reducible (cases h; done)) | (revert h; simp; done) | (revert h; simp; omega) | (revert h; simp [*]; done)))); clear h) | (refine ⟨fun h => ?_, fun h => ?_⟩; (focus (exfalso; (first | (with_reducible (cases h; done)) | (revert h; simp; done) | (revert h; simp; omega) | (revert h; simp [*]; done)))); clear h))
  refine ⟨_, ld 0 rfl rfl, ?_⟩
  repeat (first | (refine ⟨fun h => ?_, fun h => ?_⟩; rotate_left 1; (focus (exfalso; (first | (with_reducible (cases h; done)) | (revert h; simp; done) | (revert h; simp; omega) | (revert h; simp [*]; done)))); clear h) | (refine ⟨fun h => ?_, fun h => ?_⟩; (focus (exfalso; (first | (with_reducible (cases h; done)) | (revert h; simp; done) | (revert h; simp; omega) | (revert h; simp [*]; done)))); clear h))
  refine ⟨_, ld 0 rfl rfl, ?_⟩
  repeat (first | (refine ⟨fun h => ?_, fun h => ?_⟩; rotate_left 1; (focus (exfalso; (first | (with_reducible (cases h; done)) | (revert h; simp; done) | (revert h; simp; omega) | (revert h; simp [*]; done)))); clear h) | (refine ⟨fun h => ?_, fun h => ?_⟩; (focus (exfalso; (first | (with_reducible (cases h; done)) | (revert h; simp; done) | (revert h; simp; omega) | (revert h; simp [*]; done)))); clear h))
  refine ⟨_, ld 0 rfl rfl, ?_⟩
  repeat (first | (refine ⟨fun h => ?_, fun h => ?_⟩; rotate_left 1; (focus (exfalso; (first | (with_reducible (cases h; done)) | (revert h; simp; done) | (revert h; simp; omega) | (revert h; simp [*]; done)))); clear h) | (refine ⟨fun h => ?_, fun h => ?_⟩; (focus (exfalso; (first | (with_reducible (cases h; done)) | (revert h; simp; done) | (revert h; simp; omega) | (revert h; simp [*]; done)))); clear h))
  refine ⟨[], _, validRefs_ok _ l _ hg.refs (hs.rh _), ?_⟩
  rintro _ _ ⟨rfl, rfl⟩
  repeat (first | (refine ⟨fun h => ?_, fun h => ?_⟩; rotate_left 1; (focus (exfalso; (first | (with_reducible (cases h; done)) | (revert h; simp; done) | (revert h; simp; omega) | (revert h; simp [*]; done)))); clear h) | (refine ⟨fun h => ?_, fun h => ?_⟩; (focus (exfalso; (first | (with_reducible (cases h; done)) | (revert h; simp; done) | (revert h; simp; omega) | (revert h; simp [*]; done)))); clear h))
  refine ⟨_, ld 0 rfl rfl, ?_⟩
  refine ⟨[none, none, some 2, none, some 4, none, none, none, none, none, none, none, none, none, none, none, none, none, none, none, none, none, none, none, none, none, none, none, none, none, none, none, none, none, none, none, none, none, none, none, none, none, none, none, none, none, none, none, some 48, some 49, some 50, some 51, some 52, some 53, some 54, some 55, some 56, some 57], [48], Nat, fun k => k ≤ l.length, fun k => [.int .i64 k], fun _ => [.blk g 35 (stpC s (.slice A l.length cap))], fun k => l.length - k, 0, Nat.zero_le _, ⟨rfl, trivial⟩, Ent.refl _, ?_⟩
  intro k hk js
  have hk : k ≤ l.length := hk
  by_cases d : k < l.length
  · repeat (first | (refine ⟨fun h => ?_, fun h => ?_⟩; rotate_left 1; (focus (exfalso; (first | (with_reducible (cases h; done)) | (revert h; simp; done) | (revert h; simp; omega) | (revert h; simp [*]; done)))); clear h) | (refine ⟨fun h => ?_, fun h => ?_⟩; (focus (exfalso; (first | (with_reducible (cases h; done)) | (revert h; simp; done) | (revert h; simp; omega) | (revert h; simp [*]; done)))); clear h))
    obtain ⟨x, hx⟩ : ∃ x, l[k]? = some x := ⟨_, List.getElem?_eq_getElem d⟩
    have hxm := List.mem_of_getElem? hx
    obtain ⟨a, rfl, hra⟩ := hs.at_ hx
    have hcls := hg.refs.cls hxm
    have hbk := hg.cls x hxm
    refine ⟨by omega, by omega, a, rfl, ?_⟩
    refine ⟨x.cells, fun j u hu => .inl (rdn hra j u hu), rfl, ?_⟩
    intro g2
    refine ⟨rfl, rfl, 1, rfl, rfl, Nat.le_of_ble_eq_true rfl, ?_⟩
    refine ⟨x.cells, rdOff (o := 0) (n := 3) 1 rfl rfl, rfl, ?_⟩
    refine ⟨_, ld 0 rfl rfl, ?_⟩
    refine ⟨[], _, hasClass_ok _ x s.bk (hg.refs.lo hxm), ?_⟩
    rw [hcls, decide_eq_true (show ((clsF x.sz.toNat, (0 : Int)) : Nat × Int).2 = 0 ∧ ((clsF x.sz.toNat, (0 : Int)) : Nat × Int).1 = s.bk from ⟨rfl, hbk⟩)]
    rintro _ _ ⟨rfl, rfl⟩
    repeat (first | (refine ⟨fun h => ?_, fun h => ?_⟩; rotate_left 1; (focus (exfalso; (first | (with_reducible (cases h; done)) | (revert h; simp; done) | (revert h; simp; omega) | (revert h; simp [*]; done)))); clear h) | (refine ⟨fun h => ?_, fun h => ?_⟩; (focus (exfalso; (first | (with_reducible (cases h; done)) | (revert h; simp; done) | (revert h; simp; omega) | (revert h; simp [*]; done)))); clear h))
    (intro z hz; obtain rfl : z = ((k + 1 : Nat) : Int) := (by first | (rw [IntKind.wrap_i64] at hz; omega) | (rw [IntKind.wrap_u64] at hz; omega) | omega); clear hz)
    exact ⟨rfl, k + 1, d, by show l.length - (k + 1) < l.length - k; omega, ⟨rfl, trivial⟩, Ent.pick [0] rfl, rfl⟩
  · refine ⟨fun hb => absurd (of_decide_eq_true hb) (by omega), fun _ => ?_⟩
    exact ⟨_, Ent.nil _, rfl, rfl⟩
def FitP (s : St) (p : Pc) : Prop := p.st = s.id ∧ p.sums.length = s.tn ∧ p.dt.length = s.bk ∧ VPc p
instance instDecFitP (s : St) (p : Pc) : Decidable (FitP s p) := inferInstanceAs (Decidable (_ ∧ _ ∧ _ ∧ _))
set_option maxRecDepth 100000 in
set_option maxHeartbeats 4000000 in
theorem fits_ok (R : Rd) (hG : ShaG R) (s : St) (p : Pc) (Rf D S : Value) (hd : Bs R D p.dt) (hs : Ss R S p.sums) : Fn Tryd.prog 35 [.agg ⟨stpC s Rf⟩, .agg ⟨pcC p D S⟩] [] R (fun v h => v = .bool (decide (FitP s p)) ∧ h = []) := by
  have hd' := hd
  have hs' := hs
  obtain ⟨A, cap, rfl, _, _⟩ := hd'
  obtain ⟨B, bc, rfl, _, _⟩ := hs'
  refine fn_of_vc mixed tabOk Tryd.func35 rfl (by kernel_rfl) (Nat.le_of_ble_eq_true rfl) ?_
  intro g1 g2
  refine ⟨_, ld 1 rfl rfl, ?_⟩
  refine ⟨_, ld 0 rfl rfl, ?_⟩
  by_cases c1 : p.st = s.id
  case neg =>
    repeat (first | (refine ⟨fun h => ?_, fun h => ?_⟩; rotate_left 1; (focus (exfalso; (first | (with_reducible (cases h; done)) | (revert h; simp; done) | (revert h; simp; omega) | (revert h; simp [*]; done)))); clear h) | (refine ⟨fun h => ?_, fun h => ?_⟩; (focus (exfalso; (first | (with_reducible (cases h; done)) | (revert h; simp; done) | (revert h; simp; omega) | (revert h; simp [*]; done)))); clear h))
    exact ⟨_, Ent.nil _, no_D rfl (fun h => c1 h.1), rfl⟩
  repeat (first | (refine ⟨fun h => ?_, fun h => ?_⟩; rotate_left 1; (focus (exfalso; (first | (with_reducible (cases h; done)) | (revert h; simp; done) | (revert h; simp; omega) | (revert h; simp [*]; done)))); clear h) | (refine ⟨fun h => ?_, fun h => ?_⟩; (focus (exfalso; (first | (with_reducible (cases h; done)) | (revert h; simp; done) | (revert h; simp; omega) | (revert h; simp [*]; done)))); clear h))
  refine ⟨_, ld 1 rfl rfl, ?_⟩
  repeat (first | (refine ⟨fun h => ?_, fun h => ?_⟩; rotate_left 1; (focus (exfalso; (first | (with_reducible (cases h; done)) | (revert h; simp; done) | (revert h; simp; omega) | (revert h; simp [*]; done)))); clear h) | (refine ⟨fun h => ?_, fun h => ?_⟩; (focus (exfalso; (first | (with_reducible (cases h; done)) | (revert h; simp; done) | (revert h; simp; omega) | (revert h; simp [*]; done)))); clear h))
  refine ⟨_, ld 0 rfl rfl, ?_⟩
  by_cases c2 : p.sums.length = s.tn
  case neg =>
    repeat (first | (refine ⟨fun h => ?_, fun h => ?_⟩; rotate_left 1; (focus (exfalso; (first | (with_reducible (cases h; done)) | (revert h; simp; done) | (revert h; simp; omega) | (revert h; simp [*]; done)))); clear h) | (refine ⟨fun h => ?_, fun h => ?_⟩; (focus (exfalso; (first | (with_reducible (cases h; done)) | (revert h; simp; done) | (revert h; simp; omega) | (revert h; simp [*]; done)))); clear h))
    exact ⟨_, Ent.nil _, no_D rfl (fun h => c2 h.2.1), rfl⟩
  repeat (first | (refine ⟨fun h => ?_, fun h => ?_⟩; rotate_left 1; (focus (exfalso; (first | (with_reducible (cases h; done)) | (revert h; simp; done) | (revert h; simp; omega) | (revert h; simp [*]; done)))); clear h) | (refine ⟨fun h => ?_, fun h => ?_⟩; (focus (exfalso; (first | (with_reducible (cases h; done)) | (revert h; simp; done) | (revert h; simp; omega) | (revert h; simp [*]; done)))); clear h))
  refine ⟨_, ld 1 rfl rfl, ?_⟩
  repeat (first | (refine ⟨fun h => ?_, fun h => ?_⟩; rotate_left 1; (focus (exfalso; (first | (with_reducible (cases h; done)) | (revert h; simp; done) | (revert h; simp; omega) | (revert h; simp [*]; done)))); clear h) | (refine ⟨fun h => ?_, fun h => ?_⟩; (focus (exfalso; (first | (with_reducible (cases h; done)) | (revert h; simp; done) | (revert h; simp; omega) | (revert h; simp [*]; done)))); clear h))
  refine ⟨_, ld 0 rfl rfl, ?_⟩
  by_cases c3 : p.dt.length = s.bk
  case neg =>
    repeat (first | (refine ⟨fun h => ?_, fun h => ?_⟩; rotate_left 1; (focus (exfalso; (first | (with_reducible (cases h; done)) | (revert h; simp; done) | (revert h; simp; omega) | (revert h; simp [*]; done)))); clear h) | (refine ⟨fun h => ?_, fun h => ?_⟩; (focus (exfalso; (first | (with_reducible (cases h; done)) | (revert h; simp; done) | (revert h; simp; omega) | (revert h; simp [*]; done)))); clear h))
    exact ⟨_, Ent.nil _, no_D rfl (fun h => c3 h.2.2.1), rfl⟩
  repeat (first | (refine ⟨fun h => ?_, fun h => ?_⟩; rotate_left 1; (focus (exfalso; (first | (with_reducible (cases h; done)) | (revert h; simp; done) | (revert h; simp; omega) | (revert h; simp [*]; done)))); clear h) | (refine ⟨fun h => ?_, fun h => ?_⟩; (focus (exfalso; (first | (with_reducible (cases h; done)) | (revert h; simp; done) | (revert h; simp; omega) | (revert h; simp [*]; done)))); clear h))
  refine ⟨_, rdOff (o := 0) (n := 4) 1 rfl rfl, rfl, ?_⟩
  repeat (first | (refine ⟨fun h => ?_, fun h => ?_⟩; rotate_left 1; (focus (exfalso; (first | (with_reducible (cases h; done)) | (revert h; simp; done) | (revert h; simp; omega) | (revert h; simp [*]; done)))); clear h) | (refine ⟨fun h => ?_, fun h => ?_⟩; (focus (exfalso; (first | (with_reducible (cases h; done)) | (revert h; simp; done) | (revert h; simp; omega) | (revert h; simp [*]; done)))); clear h))
  refine ⟨[], _, SVerify_ok _ (hG.rh _) p _ _ (hd.rh _) (hs.rh _), ?_⟩
  rintro _ _ ⟨rfl, rfl⟩
  by_cases c4 : VPc p
  · rw [decide_eq_true c4]
    repeat (first | (refine ⟨fun h => ?_, fun h => ?_⟩; rotate_left 1; (focus (exfalso; (first | (with_reducible (cases h; done)) | (revert h; simp; done) | (revert h; simp; omega) | (revert h; simp [*]; done)))); clear h) | (refine ⟨fun h => ?_, fun h => ?_⟩; (focus (exfalso; (first | (with_reducible (cases h; done)) | (revert h; simp; done) | (revert h; simp; omega) | (revert h; simp [*]; done)))); clear h))
    exact ⟨_, Ent.nil _, yes_D rfl ⟨c1, c2, c3, c4⟩, rfl⟩
  · rw [decide_eq_false c4]
    repeat (first | (refine ⟨fun h => ?_, fun h => ?_⟩; rotate_left 1; (focus (exfalso; (first | (with_reducible (cases h; done)) | (revert h; simp; done) | (revert h; simp; omega) | (revert h; simp [*]; done)))); clear h) | (refine ⟨fun h => ?_, fun h => ?_⟩; (focus (exfalso; (first | (with_reducible (cases h; done)) | (revert h; simp; done) | (revert h; simp; omega) | (revert h; simp [*]; done)))); clear h))
    exact ⟨_, Ent.nil _, no_D rfl (fun h => c4 h.2.2.2), rfl⟩
set_option maxRecDepth 100000 in
theorem SFits_ok (R : Rd) (hG : ShaG R) (s : St) (l : List RefD) (p : Pc) (Rf D S : Value) (hg : GoodSt s l) (hr : RefsR R Rf l) (hd : Bs R D p.dt) (hs : Ss R S p.sums) : Fn Tryd.prog 9 [.agg ⟨stpC s Rf⟩, .agg ⟨pcC p D S⟩] [] R (fun v h => v = .bool (decide (FitP s p)) ∧ h = []) := by
  refine fn_of_vc mixed tabOk Tryd.func9 rfl (by kernel_rfl) (Nat.le_of_ble_eq_true rfl) ?_
  intro g1 g2
  refine ⟨_, rdOff (o := 0) (n := 6) 0 rfl rfl, rfl, ?_⟩
  refine ⟨[], _, Check_ok _ s l Rf hg (hr.rh _), ?_⟩
  rintro _ _ ⟨rfl, rfl⟩
  repeat (first | (refine ⟨fun h => ?_, fun h => ?_⟩; rotate_left 1; (focus (exfalso; (first | (with_reducible (cases h; done)) | (revert h; simp; done) | (revert h; simp; omega) | (revert h; simp [*]; done)))); clear h) | (refine ⟨fun h => ?_, fun h => ?_⟩; (focus (exfalso; (first | (with_reducible (cases h; done)) | (revert h; simp; done) | (revert h; simp; omega) | (revert h; simp [*]; done)))); clear h))
  refine ⟨_, rdOff (o := 0) (n := 6) 0 rfl rfl, rfl, ?_⟩
  repeat (first | (refine ⟨fun h => ?_, fun h => ?_⟩; rotate_left 1; (focus (exfalso; (first | (with_reducible (cases h; done)) | (revert h; simp; done) | (revert h; simp; omega) | (revert h; simp [*]; done)))); clear h) | (refine ⟨fun h => ?_, fun h => ?_⟩; (focus (exfalso; (first | (with_reducible (cases h; done)) | (revert h; simp; done) | (revert h; simp; omega) | (revert h; simp [*]; done)))); clear h))
  refine ⟨_, rdOff (o := 0) (n := 4) 1 rfl rfl, rfl, ?_⟩
  repeat (first | (refine ⟨fun h => ?_, fun h => ?_⟩; rotate_left 1; (focus (exfalso; (first | (with_reducible (cases h; done)) | (revert h; simp; done) | (revert h; simp; omega) | (revert h; simp [*]; done)))); clear h) | (refine ⟨fun h => ?_, fun h => ?_⟩; (focus (exfalso; (first | (with_reducible (cases h; done)) | (revert h; simp; done) | (revert h; simp; omega) | (revert h; simp [*]; done)))); clear h))
  refine ⟨[], _, fits_ok _ (hG.rh _) s p Rf D S (hd.rh _) (hs.rh _), ?_⟩
  rintro _ _ ⟨rfl, rfl⟩
  repeat (first | (refine ⟨fun h => ?_, fun h => ?_⟩; rotate_left 1; (focus (exfalso; (first | (with_reducible (cases h; done)) | (revert h; simp; done) | (revert h; simp; omega) | (revert h; simp [*]; done)))); clear h) | (refine ⟨fun h => ?_, fun h => ?_⟩; (focus (exfalso; (first | (with_reducible (cases h; done)) | (revert h; simp; done) | (revert h; simp; omega) | (revert h; simp [*]; done)))); clear h))
  exact ⟨_, Ent.nil _, rfl, rfl⟩

/-- What Make gives. -/
def MakeP (data total len : Nat) (bl : List Str) (l : List RefD) (v : Value) (h : Hp) : Prop :=
  ∃ u Rf ids C, v = .tuple ⟨[.agg ⟨stpC (mkSt data total len bl) Rf⟩, u, .int .i64 0]⟩ ∧ h = [.ro ids C] ∧ PcsR C u (pcsE (rsE data total bl len)) ∧ RefsR C Rf l
set_option maxRecDepth 100000 in
set_option maxHeartbeats 8000000 in
theorem Make_ok {s : Bool} (R : Rd) (hG : ShaG R) (data total len : Nat) (bl : List Str) (l : List RefD) (v3 v4 : Value) (h1 : 1 ≤ data) (h8 : data ≤ 8) (hdt : data ≤ total) (h16 : total ≤ 16) (hb1 : 1 ≤ bl.length) (hb2 : bl.length ≤ data) (hB : BlkR bl len)
    (hbl : bl.length = l.length) (hg : GoodRefs l) (hc : ∀ r ∈ l, clsF r.sz.toNat = len) (hr : RefsR R v3 l) (hs : Bss s R v4 bl) :
    Fn Tryd.prog 8 [.int .i64 0, .int .i64 data, .int .i64 total, v3, v4] [] R (MakeP data total len bl l) := by
  unfold MakeP
  have hne : ¬ l = [] := by rintro rfl; rw [hbl] at hb1; exact absurd hb1 (by decide)
  have hr' := hr
  obtain ⟨_, A, cap, rfl, _⟩ := hr'
  have hs' := hs
  obtain ⟨A4, c4, vs4, rfl, _⟩ := hs'
  obtain ⟨x0, hx0⟩ : ∃ x, l[0]? = some x := ⟨_, List.getElem?_eq_getElem (by omega)⟩
  have hx0m := List.mem_of_getElem? hx0
  obtain ⟨a0, hA0, hra0⟩ := hr.at_ hx0
  have hcl0 := hg.cls hx0m
  rw [hc x0 hx0m] at hcl0
  refine fn_of_vc mixed tabOk Tryd.func8 rfl (by kernel_rfl) (Nat.le_of_ble_eq_true rfl) ?_
  intro g10
  repeat (first | (refine ⟨fun h => ?_, fun h => ?_⟩; rotate_left 1; (focus (exfalso; (first | (with_reducible (cases h; done)) | (revert h; simp; done) | (revert h; simp; omega) | (revert h; simp [*]; done)))); clear h) | (refine ⟨fun h => ?_, fun h => ?_⟩; (focus (exfalso; (first | (with_reducible (cases h; done)) | (revert h; simp; done) | (revert h; simp; omega) | (revert h; simp [*]; done)))); clear h))
  refine ⟨[], _, RValid_ok _ data total, ?_⟩
  rintro _ _ ⟨rfl, rfl⟩
  rw [decide_eq_true (show (1 : Int) ≤ data ∧ (data : Int) ≤ 8 ∧ (data : Int) ≤ total ∧ (total : Int) ≤ 16 by omega)]
  repeat (first | (refine ⟨fun h => ?_, fun h => ?_⟩; rotate_left 1; (focus (exfalso; (first | (with_reducible (cases h; done)) | (revert h; simp; done) | (revert h; simp; omega) | (revert h; simp [*]; done)))); clear h) | (refine ⟨fun h => ?_, fun h => ?_⟩; (focus (exfalso; (first | (with_reducible (cases h; done)) | (revert h; simp; done) | (revert h; simp; omega) | (revert h; simp [*]; done)))); clear h))
  refine ⟨[], _, validRefs_ok _ l _ hg (hr.rh _), ?_⟩
  rintro _ _ ⟨rfl, rfl⟩
  repeat (first | (refine ⟨fun h => ?_, fun h => ?_⟩; rotate_left 1; (focus (exfalso; (first | (with_reducible (cases h; done)) | (revert h; simp; done) | (revert h; simp; omega) | (revert h; simp [*]; done)))); clear h) | (refine ⟨fun h => ?_, fun h => ?_⟩; (focus (exfalso; (first | (with_reducible (cases h; done)) | (revert h; simp; done) | (revert h; simp; omega) | (revert h; simp [*]; done)))); clear h))
  refine ⟨by omega, by omega, a0, hA0, ?_⟩
  refine ⟨_, .inl (fld (i := 0) (hra0 2 _ rfl)), ?_⟩
  refine ⟨[], _, Class_ok _ x0.sz (hg.lo hx0m), ?_⟩
  rw [hcl0]
  rintro _ _ ⟨rfl, rfl⟩
  refine ⟨[none, none, none, none, none, none, none, none, none, none, none, some 11, some 12, none, none, some 15, some 16, none, none, none, none, none, none, none, none, none, none, none, none, none, none, none, none, none, none, none, none, none, none, none, none, none, none, none, none, none, none, none, none, none, none, none, none, none, none, none, none, none, none, none, none, none, none, none, none, none, some 66, some 67, some 68, some 69, some 70, some 71, some 72, some 73, some 74, some 75, some 76, some 77, some 78, some 79, some 80, some 81, some 82, some 83, some 84, some 85], [66], Nat, fun k => k ≤ l.length, fun k => [.int .i64 k], fun _ => [.blk g10 35 (stpC ⟨[], 0, 0, 0⟩ (.slice none 0 0))], fun k => l.length - k, 0, Nat.zero_le _, ⟨rfl, trivial⟩, Ent.refl _, ?_⟩
  intro k hk js
  have hk : k ≤ l.length := hk
  by_cases d : k < l.length
  · repeat (first | (refine ⟨fun h => ?_, fun h => ?_⟩; rotate_left 1; (focus (exfalso; (first | (with_reducible (cases h; done)) | (revert h; simp; done) | (revert h; simp; omega) | (revert h; simp [*]; done)))); clear h) | (refine ⟨fun h => ?_, fun h => ?_⟩; (focus (exfalso; (first | (with_reducible (cases h; done)) | (revert h; simp; done) | (revert h; simp; omega) | (revert h; simp [*]; done)))); clear h))
    obtain ⟨x, hx⟩ : ∃ x, l[k]? = some x := ⟨_, List.getElem?_eq_getElem d⟩
    have hxm := List.mem_of_getElem? hx
    obtain ⟨a, hA, hra⟩ := hr.at_ hx
    have hcls := hg.cls hxm
    have hbk := hc x hxm
    obtain ⟨b, B, bc, hA4, hrb, _⟩ := hs.at_ (i := k) (by omega)
    rw [hB.get (by omega)] at hrb
    refine ⟨by omega, by omega, a, hA, ?_⟩
    refine ⟨x.cells, fun j u hu => .inl (rdn hra j u hu), rfl, ?_⟩
    intro g2
    refine ⟨rfl, rfl, 1, rfl, rfl, Nat.le_of_ble_eq_true rfl, ?_⟩
    refine ⟨x.cells, rdOff (o := 0) (n := 3) 1 rfl rfl, rfl, ?_⟩
    refine ⟨[], _, hasClass_ok _ x len (hg.lo hxm), ?_⟩
    rw [hcls, decide_eq_true (show ((clsF x.sz.toNat, (0 : Int)) : Nat × Int).2 = 0 ∧ ((clsF x.sz.toNat, (0 : Int)) : Nat × Int).1 = len from ⟨rfl, hbk⟩)]
    rintro _ _ ⟨rfl, rfl⟩
    repeat (first | (refine ⟨fun h => ?_, fun h => ?_⟩; rotate_left 1; (focus (exfalso; (first | (with_reducible (cases h; done)) | (revert h; simp; done) | (revert h; simp; omega) | (revert h; simp [*]; done)))); clear h) | (refine ⟨fun h => ?_, fun h => ?_⟩; (focus (exfalso; (first | (with_reducible (cases h; done)) | (revert h; simp; done) | (revert h; simp; omega) | (revert h; simp [*]; done)))); clear h))
    refine ⟨by omega, by omega, b, hA4, ?_⟩
    repeat (first | (refine ⟨fun h => ?_, fun h => ?_⟩; rotate_left 1; (focus (exfalso; (first | (with_reducible (cases h; done)) | (revert h; simp; done) | (revert h; simp; omega) | (revert h; simp [*]; done)))); clear h) | (refine ⟨fun h => ?_, fun h => ?_⟩; (focus (exfalso; (first | (with_reducible (cases h; done)) | (revert h; simp; done) | (revert h; simp; omega) | (revert h; simp [*]; done)))); clear h))
    refine ⟨_, .inl hrb, ?_⟩
    repeat (first | (refine ⟨fun h => ?_, fun h => ?_⟩; rotate_left 1; (focus (exfalso; (first | (with_reducible (cases h; done)) | (revert h; simp; done) | (revert h; simp; omega) | (revert h; simp [*]; done)))); clear h) | (refine ⟨fun h => ?_, fun h => ?_⟩; (focus (exfalso; (first | (with_reducible (cases h; done)) | (revert h; simp; done) | (revert h; simp; omega) | (revert h; simp [*]; done)))); clear h))
    (intro z hz; obtain rfl : z = ((k + 1 : Nat) : Int) := (by first | (rw [IntKind.wrap_i64] at hz; omega) | (rw [IntKind.wrap_u64] at hz; omega) | omega); clear hz)
    exact ⟨rfl, k + 1, d, by show l.length - (k + 1) < l.length - k; omega, ⟨rfl, trivial⟩, Ent.pick [0] rfl, rfl⟩
  · refine ⟨fun hb => absurd (of_decide_eq_true hb) (by omega), fun _ => ?_⟩
    refine ⟨[], _, code_ok _ (hG.rh _) data total len bl _ h1 h8 hdt h16 hb1 hb2 hB (hs.rh _), ?_⟩
    rintro _ _ ⟨u, ids, C, rfl, rfl, hu⟩
    have hu' := hu
    obtain ⟨Au, cu, lu, rfl, _⟩ := hu'
    repeat (first | (refine ⟨fun h => ?_, fun h => ?_⟩; rotate_left 1; (focus (exfalso; (first | (with_reducible (cases h; done)) | (revert h; simp; done) | (revert h; simp; omega) | (revert h; simp [*]; done)))); clear h) | (refine ⟨fun h => ?_, fun h => ?_⟩; (focus (exfalso; (first | (with_reducible (cases h; done)) | (revert h; simp; done) | (revert h; simp; omega) | (revert h; simp [*]; done)))); clear h))
    refine ⟨[], _, CloneR_ok _ l _ (by omega) hg.len (hr.rh _), ?_⟩
    rintro _ _ ⟨Ar, cr, rfl, rfl, hgr⟩
    intro g20
    refine ⟨rfl, rfl, 3, rfl, rfl, Nat.le_of_ble_eq_true rfl, ?_⟩
    refine ⟨_, rdOff (o := 0) (n := 6) 3 rfl rfl, rfl, ?_⟩
    refine ⟨rfl, rfl, 0, rfl, rfl, Nat.le_of_ble_eq_true rfl, ?_⟩
    refine ⟨_, rdOff (o := 0) (n := 6) 0 rfl rfl, rfl, ?_⟩
    obtain ⟨b, hb⟩ : ∃ b : Hp, b = [.ro ids C, .row Ar l.length cr 33 3 (refsC l) (0, 0)] := ⟨_, rfl⟩
    refine ⟨[.ro (idsOf b) (cellsOf b)], ?_, _, .slice Ar l.length cr, _, _, rfl, rfl, hu.mono (ro_in 0 (by rw [hb]; rfl)), ?_⟩
    · refine Ent.trans (Ent.pick (hs := b) [1, 1] hb.symm) ?_
      exact Ent.freeze [] b
    have h3 : SlR (RH noC b) 3 (.slice Ar l.length cr) l.length (refsC l) := SlR.own 1 (by rw [hb]; rfl) (refsC_length l) hgr
    exact h3.mono fun _ _ => cells_rh

end Go.Proofs.YtgnmbgbiajgpeaaDoor
