/-
  Transfer: contracts of stripe.Verify and of the sender.
-/
import Derived.Test.YtgnmbgbiajgpeaaDoorTrd
namespace Go.Proofs.YtgnmbgbiajgpeaaDoor
open Go Go.RowKit
set_option linter.unusedVariables false

theorem Verify1_ok (R : Rd) (s : Str) : Fn Tryd.prog 66 [.string ⟨⟨s⟩⟩] [] R (fun v h => v = .bool (!decide ((s.length : Int) = 32)) ∧ h = []) := by
  refine fn_of_vc mixed tabOk Tryd.func66 rfl (by kernel_rfl) (Nat.le_of_ble_eq_true rfl) ?_
  exact ⟨_, Ent.refl _, rfl, rfl⟩

set_option maxHeartbeats 2000000 in
theorem IndexFunc_ok (R : Rd) (l : List Str) (v : Value) (hn : l.length ≤ 1000000) (hs : Ss R v l) :
    Fn Tryd.prog 82 [v, .func (.func 66) #[] #[]] [] R (fun v h => ∃ z : Int, v = .int .i64 z ∧ (0 ≤ z ↔ sumsB l = false) ∧ h = []) := by
  obtain ⟨A0, cap0, rfl, hc0, hsr⟩ := hs
  refine fn_of_vc mixed tabOk Tryd.func82 rfl (by kernel_rfl) (Nat.le_of_ble_eq_true rfl) ?_
  refine ⟨[none, none, none, none, some 4, some 5, none, none, some 8, some 9, some 10, some 11, some 12, some 13, some 14, some 15, some 16, some 17, some 18], [8], Nat, fun i => i ≤ l.length ∧ sumsB (l.take i) = true, fun i => [.int .i64 i], fun _ => [], fun i => l.length - i, 0, ⟨Nat.zero_le _, rfl⟩, ⟨rfl, trivial⟩, Ent.refl _, ?_⟩
  rintro i ⟨hi, hg⟩ js
  refine ⟨fun hb => ?_, fun hb => ?_⟩
  · replace hb := of_decide_eq_true hb
    have hlt : i < l.length := by omega
    obtain ⟨a, rfl, hr⟩ := hsr.one hlt
    refine ⟨by omega, by omega, a, rfl, _, .inl hr, ?_⟩
    have hst := sumsB_take hlt
    have hsf := @sumsB_false l i hlt
    generalize l.getD i [] = s at *
    refine ⟨[], _, Verify1_ok _ s, ?_⟩
    rintro _ _ ⟨rfl, rfl⟩
    by_cases c : (s.length : Int) = 32
    · rw [decide_eq_true c]
      repeat (first | (refine ⟨fun h => ?_, fun h => ?_⟩; rotate_left 1; (focus (exfalso; (first | (with_reducible (cases h; done)) | (revert h; simp; done) | (revert h; simp; omega) | (revert h; simp [*]; done)))); clear h) | (refine ⟨fun h => ?_, fun h => ?_⟩; (focus (exfalso; (first | (with_reducible (cases h; done)) | (revert h; simp; done) | (revert h; simp; omega) | (revert h; simp [*]; done)))); clear h))
      (intro z hz; obtain rfl : z = ((i + 1 : Nat) : Int) := (by first | (rw [IntKind.wrap_i64] at hz; omega) | (rw [IntKind.wrap_u64] at hz; omega) | omega); clear hz)
      exact ⟨rfl, i + 1, ⟨hlt, by rw [hst, hg]; simp; omega⟩, by show l.length - (i + 1) < l.length - i; omega, ⟨rfl, trivial⟩, Ent.refl _, rfl⟩
    · rw [decide_eq_false c]
      repeat (first | (refine ⟨fun h => ?_, fun h => ?_⟩; rotate_left 1; (focus (exfalso; (first | (with_reducible (cases h; done)) | (revert h; simp; done) | (revert h; simp; omega) | (revert h; simp [*]; done)))); clear h) | (refine ⟨fun h => ?_, fun h => ?_⟩; (focus (exfalso; (first | (with_reducible (cases h; done)) | (revert h; simp; done) | (revert h; simp; omega) | (revert h; simp [*]; done)))); clear h))
      exact ⟨_, Ent.refl _, i, rfl, ⟨fun _ => hsf (by omega), fun _ => by omega⟩, rfl⟩
  · replace hb := of_decide_eq_false hb
    obtain rfl : i = l.length := by omega
    rw [List.take_length] at hg
    exact ⟨_, Ent.refl _, -1, rfl, ⟨fun h => by omega, fun h => by rw [hg] at h; cases h⟩, rfl⟩
theorem ContainsFunc_ok (R : Rd) (l : List Str) (v : Value) (hn : l.length ≤ 1000000) (hs : Ss R v l) :
    Fn Tryd.prog 65 [v, .func (.func 66) #[] #[]] [] R (fun v h => v = .bool (!sumsB l) ∧ h = []) := by
  refine fn_of_vc mixed tabOk Tryd.func65 rfl (by kernel_rfl) (Nat.le_of_ble_eq_true rfl) ?_
  refine ⟨[], _, IndexFunc_ok _ l v hn (hs.rh _), ?_⟩
  rintro _ _ ⟨z, rfl, hz, rfl⟩
  refine ⟨_, Ent.refl _, ?_, rfl⟩
  cases hb : sumsB l
  · rw [hb] at hz
    show Value.bool (decide (0 ≤ z)) = _
    rw [decide_eq_true (hz.2 rfl)]; rfl
  · rw [hb] at hz
    show Value.bool (decide (0 ≤ z)) = _
    rw [decide_eq_false (fun h => by have := hz.1 h; cases this)]; rfl

structure Pc where
  st : Str
  ix : Int
  dt : Str
  sums : List Str
def pcC (p : Pc) (D S : Value) : List Value := [.string ⟨⟨p.st⟩⟩, .int .i64 p.ix, D, S]
def Pc.hd (p : Pc) : Hd := ⟨p.st, p.ix, p.dt.length, p.sums⟩
/-- A valid piece. -/
structure VPc (p : Pc) : Prop where
  wf : WfH p.hd
  sum : rootOf (blockLeaves 512 p.dt) = p.sums.getD p.ix.toNat []
  root : rootOf p.sums = p.st
instance instDecVPc (p : Pc) : Decidable (VPc p) :=
  decidable_of_iff (WfH p.hd ∧ rootOf (blockLeaves 512 p.dt) = p.sums.getD p.ix.toNat [] ∧ rootOf p.sums = p.st) ⟨fun ⟨a, b, c⟩ => ⟨a, b, c⟩, fun ⟨a, b, c⟩ => ⟨a, b, c⟩⟩
theorem wf_small {l : List Str} (h1 : l.length ≤ 16) (h : sumsB l = true) : Small l := ⟨by omega, fun s hs => by have := mem_sums h s hs; omega⟩

set_option maxRecDepth 100000 in
set_option maxHeartbeats 4000000 in
theorem SVerify_ok (R : Rd) (hG : ShaG R) (p : Pc) (D S : Value) (hd : Bs R D p.dt) (hs : Ss R S p.sums) :
    Fn Tryd.prog 43 [.agg ⟨pcC p D S⟩] [] R (fun v h => v = .bool (decide (VPc p)) ∧ h = []) := by
  obtain ⟨A, cap, rfl, hc, hdr⟩ := hd
  have hs' := hs
  obtain ⟨B, cb, rfl, hcb, hsr⟩ := hs'
  refine fn_of_vc mixed tabOk Tryd.func43 rfl (by kernel_rfl) (Nat.le_of_ble_eq_true rfl) ?_
  intro g
  refine ⟨_, ld 0 rfl rfl, ?_⟩
  by_cases c1 : (p.st.length : Int) = 32
  case neg =>
    repeat (first | (refine ⟨fun h => ?_, fun h => ?_⟩; rotate_left 1; (focus (exfalso; (first | (with_reducible (cases h; done)) | (revert h; simp; done) | (revert h; simp; omega) | (revert h; simp [*]; done)))); clear h) | (refine ⟨fun h => ?_, fun h => ?_⟩; (focus (exfalso; (first | (with_reducible (cases h; done)) | (revert h; simp; done) | (revert h; simp; omega) | (revert h; simp [*]; done)))); clear h))
    exact ⟨_, Ent.nil _, no_D rfl (fun w => c1 (by have := w.wf.st; show ((Pc.hd p).st.length : Int) = 32; omega)), rfl⟩
  repeat (first | (refine ⟨fun h => ?_, fun h => ?_⟩; rotate_left 1; (focus (exfalso; (first | (with_reducible (cases h; done)) | (revert h; simp; done) | (revert h; simp; omega) | (revert h; simp [*]; done)))); clear h) | (refine ⟨fun h => ?_, fun h => ?_⟩; (focus (exfalso; (first | (with_reducible (cases h; done)) | (revert h; simp; done) | (revert h; simp; omega) | (revert h; simp [*]; done)))); clear h))
  refine ⟨_, ld 0 rfl rfl, ?_⟩
  by_cases c2 : (p.sums.length : Int) < 1
  · repeat (first | (refine ⟨fun h => ?_, fun h => ?_⟩; rotate_left 1; (focus (exfalso; (first | (with_reducible (cases h; done)) | (revert h; simp; done) | (revert h; simp; omega) | (revert h; simp [*]; done)))); clear h) | (refine ⟨fun h => ?_, fun h => ?_⟩; (focus (exfalso; (first | (with_reducible (cases h; done)) | (revert h; simp; done) | (revert h; simp; omega) | (revert h; simp [*]; done)))); clear h))
    exact ⟨_, Ent.nil _, no_D rfl (fun w => by have : 1 ≤ p.sums.length := w.wf.n1; omega), rfl⟩
  repeat (first | (refine ⟨fun h => ?_, fun h => ?_⟩; rotate_left 1; (focus (exfalso; (first | (with_reducible (cases h; done)) | (revert h; simp; done) | (revert h; simp; omega) | (revert h; simp [*]; done)))); clear h) | (refine ⟨fun h => ?_, fun h => ?_⟩; (focus (exfalso; (first | (with_reducible (cases h; done)) | (revert h; simp; done) | (revert h; simp; omega) | (revert h; simp [*]; done)))); clear h))
  refine ⟨_, ld 0 rfl rfl, ?_⟩
  by_cases c3 : (16 : Int) < p.sums.length
  · repeat (first | (refine ⟨fun h => ?_, fun h => ?_⟩; rotate_left 1; (focus (exfalso; (first | (with_reducible (cases h; done)) | (revert h; simp; done) | (revert h; simp; omega) | (revert h; simp [*]; done)))); clear h) | (refine ⟨fun h => ?_, fun h => ?_⟩; (focus (exfalso; (first | (with_reducible (cases h; done)) | (revert h; simp; done) | (revert h; simp; omega) | (revert h; simp [*]; done)))); clear h))
    exact ⟨_, Ent.nil _, no_D rfl (fun w => by have : p.sums.length ≤ 16 := w.wf.n2; omega), rfl⟩
  repeat (first | (refine ⟨fun h => ?_, fun h => ?_⟩; rotate_left 1; (focus (exfalso; (first | (with_reducible (cases h; done)) | (revert h; simp; done) | (revert h; simp; omega) | (revert h; simp [*]; done)))); clear h) | (refine ⟨fun h => ?_, fun h => ?_⟩; (focus (exfalso; (first | (with_reducible (cases h; done)) | (revert h; simp; done) | (revert h; simp; omega) | (revert h; simp [*]; done)))); clear h))
  refine ⟨_, ld 0 rfl rfl, ?_⟩
  refine ⟨[], _, ContainsFunc_ok _ p.sums _ (by omega) (hs.rh _), ?_⟩
  rintro _ _ ⟨rfl, rfl⟩
  cases c4 : sumsB p.sums
  · repeat (first | (refine ⟨fun h => ?_, fun h => ?_⟩; rotate_left 1; (focus (exfalso; (first | (with_reducible (cases h; done)) | (revert h; simp; done) | (revert h; simp; omega) | (revert h; simp [*]; done)))); clear h) | (refine ⟨fun h => ?_, fun h => ?_⟩; (focus (exfalso; (first | (with_reducible (cases h; done)) | (revert h; simp; done) | (revert h; simp; omega) | (revert h; simp [*]; done)))); clear h))
    exact ⟨_, Ent.nil _, no_D rfl (fun w => by have : sumsB p.sums = true := w.wf.sums; rw [c4] at this; cases this), rfl⟩
  repeat (first | (refine ⟨fun h => ?_, fun h => ?_⟩; rotate_left 1; (focus (exfalso; (first | (with_reducible (cases h; done)) | (revert h; simp; done) | (revert h; simp; omega) | (revert h; simp [*]; done)))); clear h) | (refine ⟨fun h => ?_, fun h => ?_⟩; (focus (exfalso; (first | (with_reducible (cases h; done)) | (revert h; simp; done) | (revert h; simp; omega) | (revert h; simp [*]; done)))); clear h))
  refine ⟨_, ld 0 rfl rfl, ?_⟩
  by_cases c5 : p.ix < 0
  · repeat (first | (refine ⟨fun h => ?_, fun h => ?_⟩; rotate_left 1; (focus (exfalso; (first | (with_reducible (cases h; done)) | (revert h; simp; done) | (revert h; simp; omega) | (revert h; simp [*]; done)))); clear h) | (refine ⟨fun h => ?_, fun h => ?_⟩; (focus (exfalso; (first | (with_reducible (cases h; done)) | (revert h; simp; done) | (revert h; simp; omega) | (revert h; simp [*]; done)))); clear h))
    exact ⟨_, Ent.nil _, no_D rfl (fun w => by have : 0 ≤ p.ix := w.wf.i0; omega), rfl⟩
  repeat (first | (refine ⟨fun h => ?_, fun h => ?_⟩; rotate_left 1; (focus (exfalso; (first | (with_reducible (cases h; done)) | (revert h; simp; done) | (revert h; simp; omega) | (revert h; simp [*]; done)))); clear h) | (refine ⟨fun h => ?_, fun h => ?_⟩; (focus (exfalso; (first | (with_reducible (cases h; done)) | (revert h; simp; done) | (revert h; simp; omega) | (revert h; simp [*]; done)))); clear h))
  refine ⟨_, ld 0 rfl rfl, ?_⟩
  repeat (first | (refine ⟨fun h => ?_, fun h => ?_⟩; rotate_left 1; (focus (exfalso; (first | (with_reducible (cases h; done)) | (revert h; simp; done) | (revert h; simp; omega) | (revert h; simp [*]; done)))); clear h) | (refine ⟨fun h => ?_, fun h => ?_⟩; (focus (exfalso; (first | (with_reducible (cases h; done)) | (revert h; simp; done) | (revert h; simp; omega) | (revert h; simp [*]; done)))); clear h))
  refine ⟨_, ld 0 rfl rfl, ?_⟩
  by_cases c6 : (p.sums.length : Int) ≤ p.ix
  · repeat (first | (refine ⟨fun h => ?_, fun h => ?_⟩; rotate_left 1; (focus (exfalso; (first | (with_reducible (cases h; done)) | (revert h; simp; done) | (revert h; simp; omega) | (revert h; simp [*]; done)))); clear h) | (refine ⟨fun h => ?_, fun h => ?_⟩; (focus (exfalso; (first | (with_reducible (cases h; done)) | (revert h; simp; done) | (revert h; simp; omega) | (revert h; simp [*]; done)))); clear h))
    exact ⟨_, Ent.nil _, no_D rfl (fun w => by have : p.ix < p.sums.length := w.wf.i1; omega), rfl⟩
  repeat (first | (refine ⟨fun h => ?_, fun h => ?_⟩; rotate_left 1; (focus (exfalso; (first | (with_reducible (cases h; done)) | (revert h; simp; done) | (revert h; simp; omega) | (revert h; simp [*]; done)))); clear h) | (refine ⟨fun h => ?_, fun h => ?_⟩; (focus (exfalso; (first | (with_reducible (cases h; done)) | (revert h; simp; done) | (revert h; simp; omega) | (revert h; simp [*]; done)))); clear h))
  refine ⟨_, ld 0 rfl rfl, ?_⟩
  by_cases c7 : (p.dt.length : Int) < 1
  · repeat (first | (refine ⟨fun h => ?_, fun h => ?_⟩; rotate_left 1; (focus (exfalso; (first | (with_reducible (cases h; done)) | (revert h; simp; done) | (revert h; simp; omega) | (revert h; simp [*]; done)))); clear h) | (refine ⟨fun h => ?_, fun h => ?_⟩; (focus (exfalso; (first | (with_reducible (cases h; done)) | (revert h; simp; done) | (revert h; simp; omega) | (revert h; simp [*]; done)))); clear h))
    exact ⟨_, Ent.nil _, no_D rfl (fun w => by have : 1 ≤ (p.dt.length : Int) := w.wf.s0; omega), rfl⟩
  repeat (first | (refine ⟨fun h => ?_, fun h => ?_⟩; rotate_left 1; (focus (exfalso; (first | (with_reducible (cases h; done)) | (revert h; simp; done) | (revert h; simp; omega) | (revert h; simp [*]; done)))); clear h) | (refine ⟨fun h => ?_, fun h => ?_⟩; (focus (exfalso; (first | (with_reducible (cases h; done)) | (revert h; simp; done) | (revert h; simp; omega) | (revert h; simp [*]; done)))); clear h))
  refine ⟨_, ld 0 rfl rfl, ?_⟩
  by_cases c8 : (65536 : Int) < p.dt.length
  · repeat (first | (refine ⟨fun h => ?_, fun h => ?_⟩; rotate_left 1; (focus (exfalso; (first | (with_reducible (cases h; done)) | (revert h; simp; done) | (revert h; simp; omega) | (revert h; simp [*]; done)))); clear h) | (refine ⟨fun h => ?_, fun h => ?_⟩; (focus (exfalso; (first | (with_reducible (cases h; done)) | (revert h; simp; done) | (revert h; simp; omega) | (revert h; simp [*]; done)))); clear h))
    exact ⟨_, Ent.nil _, no_D rfl (fun w => by have : (p.dt.length : Int) ≤ 65536 := w.wf.s1; omega), rfl⟩
  repeat (first | (refine ⟨fun h => ?_, fun h => ?_⟩; rotate_left 1; (focus (exfalso; (first | (with_reducible (cases h; done)) | (revert h; simp; done) | (revert h; simp; omega) | (revert h; simp [*]; done)))); clear h) | (refine ⟨fun h => ?_, fun h => ?_⟩; (focus (exfalso; (first | (with_reducible (cases h; done)) | (revert h; simp; done) | (revert h; simp; omega) | (revert h; simp [*]; done)))); clear h))
  refine ⟨_, ld 0 rfl rfl, ?_⟩
  refine ⟨[], _, Of_ok _ (hG.rh _) p.dt A cap 512 (by omega) (by omega) hc (hdr.rh _), ?_⟩
  rintro _ _ ⟨rfl, rfl⟩
  have eo : ofV p.dt 512 = (rootOf (blockLeaves 512 p.dt), 0) := rfl
  rw [eo]
  generalize hro : rootOf (blockLeaves 512 p.dt) = ro at *
  refine ⟨[0], (.q 0 (.q 1 (.q 2 (.q 3 (.q 4 (.q 5 (.q 6 (.q 7 (.q 8 (.q 9 (.q 10 (.q 11 (.q 12 (.q 13 (.q 14 (.q 15 (.q 17 (.q 18 (.q 19 (.one 16 (.q 20 (.q 21 (.q 22 .nil))))))))))))))))))))))), by kernel_rfl, ?_⟩
  repeat (first | (refine ⟨fun h => ?_, fun h => ?_⟩; rotate_left 1; (focus (exfalso; (first | (with_reducible (cases h; done)) | (revert h; simp; done) | (revert h; simp; omega) | (revert h; simp [*]; done)))); clear h) | (refine ⟨fun h => ?_, fun h => ?_⟩; (focus (exfalso; (first | (with_reducible (cases h; done)) | (revert h; simp; done) | (revert h; simp; omega) | (revert h; simp [*]; done)))); clear h))
  refine ⟨_, ld 0 rfl rfl, ?_⟩
  repeat (first | (refine ⟨fun h => ?_, fun h => ?_⟩; rotate_left 1; (focus (exfalso; (first | (with_reducible (cases h; done)) | (revert h; simp; done) | (revert h; simp; omega) | (revert h; simp [*]; done)))); clear h) | (refine ⟨fun h => ?_, fun h => ?_⟩; (focus (exfalso; (first | (with_reducible (cases h; done)) | (revert h; simp; done) | (revert h; simp; omega) | (revert h; simp [*]; done)))); clear h))
  refine ⟨_, ld 0 rfl rfl, ?_⟩
  repeat (first | (refine ⟨fun h => ?_, fun h => ?_⟩; rotate_left 1; (focus (exfalso; (first | (with_reducible (cases h; done)) | (revert h; simp; done) | (revert h; simp; omega) | (revert h; simp [*]; done)))); clear h) | (refine ⟨fun h => ?_, fun h => ?_⟩; (focus (exfalso; (first | (with_reducible (cases h; done)) | (revert h; simp; done) | (revert h; simp; omega) | (revert h; simp [*]; done)))); clear h))
  have hlt : p.ix.toNat < p.sums.length := by omega
  obtain ⟨a, rfl, hr⟩ := hsr.one hlt
  refine ⟨by omega, by omega, a, rfl, ?_⟩
  repeat (first | (refine ⟨fun h => ?_, fun h => ?_⟩; rotate_left 1; (focus (exfalso; (first | (with_reducible (cases h; done)) | (revert h; simp; done) | (revert h; simp; omega) | (revert h; simp [*]; done)))); clear h) | (refine ⟨fun h => ?_, fun h => ?_⟩; (focus (exfalso; (first | (with_reducible (cases h; done)) | (revert h; simp; done) | (revert h; simp; omega) | (revert h; simp [*]; done)))); clear h))
  have hix : (p.ix.toNat : Int) = p.ix := by omega
  rw [hix] at hr
  refine ⟨_, .inl hr, ?_⟩
  have wf : WfH p.hd := ⟨by show 1 ≤ p.sums.length; omega, by show p.sums.length ≤ 16; omega, c4, by show p.st.length = 32; omega, by show 0 ≤ p.ix; omega, by show p.ix < p.sums.length; omega, by show (1 : Int) ≤ p.dt.length; omega, by show (p.dt.length : Int) ≤ 65536; omega⟩
  have hsum : VPc p → ro = p.sums.getD p.ix.toNat [] := fun w => by rw [← hro]; exact w.sum
  have hmk : ro = p.sums.getD p.ix.toNat [] → rootOf p.sums = p.st → VPc p := fun a b => ⟨wf, by rw [hro]; exact a, b⟩
  generalize p.sums.getD p.ix.toNat [] = si at *
  by_cases c9 : ro = si
  case neg =>
    repeat (first | (refine ⟨fun h => ?_, fun h => ?_⟩; rotate_left 1; (focus (exfalso; (first | (with_reducible (cases h; done)) | (revert h; simp; done) | (revert h; simp; omega) | (revert h; simp [*]; done)))); clear h) | (refine ⟨fun h => ?_, fun h => ?_⟩; (focus (exfalso; (first | (with_reducible (cases h; done)) | (revert h; simp; done) | (revert h; simp; omega) | (revert h; simp [*]; done)))); clear h))
    exact ⟨_, Ent.nil _, no_D rfl (fun w => c9 (hsum w)), rfl⟩
  repeat (first | (refine ⟨fun h => ?_, fun h => ?_⟩; rotate_left 1; (focus (exfalso; (first | (with_reducible (cases h; done)) | (revert h; simp; done) | (revert h; simp; omega) | (revert h; simp [*]; done)))); clear h) | (refine ⟨fun h => ?_, fun h => ?_⟩; (focus (exfalso; (first | (with_reducible (cases h; done)) | (revert h; simp; done) | (revert h; simp; omega) | (revert h; simp [*]; done)))); clear h))
  refine ⟨_, ld 0 rfl rfl, ?_⟩
  repeat (first | (refine ⟨fun h => ?_, fun h => ?_⟩; rotate_left 1; (focus (exfalso; (first | (with_reducible (cases h; done)) | (revert h; simp; done) | (revert h; simp; omega) | (revert h; simp [*]; done)))); clear h) | (refine ⟨fun h => ?_, fun h => ?_⟩; (focus (exfalso; (first | (with_reducible (cases h; done)) | (revert h; simp; done) | (revert h; simp; omega) | (revert h; simp [*]; done)))); clear h))
  refine ⟨_, ld 0 rfl rfl, ?_⟩
  repeat (first | (refine ⟨fun h => ?_, fun h => ?_⟩; rotate_left 1; (focus (exfalso; (first | (with_reducible (cases h; done)) | (revert h; simp; done) | (revert h; simp; omega) | (revert h; simp [*]; done)))); clear h) | (refine ⟨fun h => ?_, fun h => ?_⟩; (focus (exfalso; (first | (with_reducible (cases h; done)) | (revert h; simp; done) | (revert h; simp; omega) | (revert h; simp [*]; done)))); clear h))
  refine ⟨[], _, Root_ok _ ((hG.rh _).rh _) _ p.sums _ rfl (wf_small (by omega) c4) ((hs.rh _).rh _), ?_⟩
  rintro _ _ ⟨rfl, rfl⟩
  have hroot : VPc p → rootOf p.sums = p.st := fun w => w.root
  generalize rootOf p.sums = rs at *
  repeat (first | (refine ⟨fun h => ?_, fun h => ?_⟩; rotate_left 1; (focus (exfalso; (first | (with_reducible (cases h; done)) | (revert h; simp; done) | (revert h; simp; omega) | (revert h; simp [*]; done)))); clear h) | (refine ⟨fun h => ?_, fun h => ?_⟩; (focus (exfalso; (first | (with_reducible (cases h; done)) | (revert h; simp; done) | (revert h; simp; omega) | (revert h; simp [*]; done)))); clear h))
  by_cases c10 : rs = p.st
  case neg =>
    exact ⟨_, Ent.nil _, no_D (decide_eq_false c10) (fun w => c10 (hroot w)), rfl⟩
  exact ⟨_, Ent.nil _, yes_D (decide_eq_true c10) (hmk c9 c10), rfl⟩

set_option maxRecDepth 100000 in
theorem clone_ok (R : Rd) (g : Nat) (h : Hd) (B : Value) (hn : h.sums.length ≤ 1000000) (hc : CellsAt R g (hdC h B)) (hs : Ss R B h.sums) :
    Fn Tryd.prog 48 [.pointer (some ⟨g, 0, .none⟩)] [] R
      (fun v hp => ∃ C cc, v = .agg ⟨hdC h (.slice C h.sums.length cc)⟩ ∧ hp = [.row C h.sums.length cc 9 1 (SV h.sums) (0, 0)] ∧ grow h.sums.length C ∧ h.sums.length ≤ cc) := by
  refine fn_of_vc mixed tabOk Tryd.func48 rfl (by kernel_rfl) (Nat.le_of_ble_eq_true rfl) ?_
  intro g2
  refine ⟨[], (.q 0 (.q 1 (.q 2 (.q 3 (.q 4 (.q 5 (.q 6 (.q 7 (.q 8 (.q 9 (.q 10 (.q 11 (.one 12 (.q 13 (.fin 14))))))))))))))), by kernel_rfl, ?_⟩
  refine ⟨_, (hc.rh _).rd 0 2 rfl, rfl, ?_⟩
  refine ⟨_, .inl (hc 2 _ rfl), ?_⟩
  refine ⟨_, .inl (hc 3 _ rfl), ?_⟩
  refine ⟨[], _, CloneS_ok _ h.sums B (by omega) ((hs.rh _).rh _), ?_⟩
  rintro _ _ ⟨C, cc, rfl, rfl, hg, hcc⟩
  refine ⟨rfl, rfl, 0, rfl, rfl, Nat.le_of_ble_eq_true rfl, ?_⟩
  refine ⟨_, rdOff (o := 0) (n := 4) 0 rfl rfl, rfl, ?_⟩
  exact ⟨_, Ent.pick [1] rfl, C, cc, rfl, rfl, hg, hcc⟩

/-! ### the sender -/
/-- A sender that may be read. -/
def SdR (R : Rd) (g : Nat) (p : Pc) : Prop := ∃ S D, CellsAt R g (hdC p.hd S ++ [D]) ∧ Ss R S p.sums ∧ Bs R D p.dt
def sdH (g : Nat) (p : Pc) (C : Option Addr) (cc : Nat) (D : Option Addr) (cd : Nat) : Hp :=
  [.blk g 99 (hdC p.hd (.slice C p.sums.length cc) ++ [.slice D p.dt.length cd]), .row C p.sums.length cc 9 1 (SV p.sums) (0, 0), .row D p.dt.length cd 5 1 (BV p.dt) (0, 0)]
/-- A sender, made anew. -/
def IsSd (g : Nat) (p : Pc) (h : Hp) : Prop := ∃ C cc D cd, grow p.sums.length C ∧ p.sums.length ≤ cc ∧ grow p.dt.length D ∧ p.dt.length ≤ cd ∧ h = sdH g p C cc D cd
theorem sd_own {R : Rd} {h : Hp} (i j k : Nat) {g : Nat} {p : Pc} {C : Option Addr} {cc : Nat} {D : Option Addr} {cd : Nat} (h1 : grow p.sums.length C) (h2 : p.sums.length ≤ cc) (h3 : grow p.dt.length D) (h4 : p.dt.length ≤ cd)
    (e1 : h[i]? = some (.blk g 99 (hdC p.hd (.slice C p.sums.length cc) ++ [.slice D p.dt.length cd]))) (e2 : h[j]? = some (.row C p.sums.length cc 9 1 (SV p.sums) (0, 0))) (e3 : h[k]? = some (.row D p.dt.length cd 5 1 (BV p.dt) (0, 0))) : SdR (RH R h) g p :=
  ⟨_, _, CellsAt.own i e1, ss_own j e2 h1 h2, bs_own k e3 h3 h4⟩
set_option maxRecDepth 100000 in
set_option maxHeartbeats 2000000 in
theorem NewSender_ok (R : Rd) (hG : ShaG R) (p : Pc) (D S : Value) (hd : Bs R D p.dt) (hs : Ss R S p.sums) :
    Fn Tryd.prog 20 [.agg ⟨pcC p D S⟩] [] R (fun v h => (¬ VPc p ∧ v = .tuple ⟨[.pointer .none, .int .i64 9]⟩ ∧ h = []) ∨ (VPc p ∧ ∃ g, v = .tuple ⟨[.pointer (some ⟨g, 0, .none⟩), .int .i64 0]⟩ ∧ IsSd g p h)) := by
  refine fn_of_vc mixed tabOk Tryd.func20 rfl (by kernel_rfl) (Nat.le_of_ble_eq_true rfl) ?_
  intro gb
  refine ⟨_, rdOff (o := 0) (n := 4) 0 rfl rfl, rfl, ?_⟩
  refine ⟨[], _, SVerify_ok _ (hG.rh _) p D S (hd.rh _) (hs.rh _), ?_⟩
  rintro _ _ ⟨rfl, rfl⟩
  by_cases w : VPc p
  case neg =>
    rw [decide_eq_false w]
    repeat (first | (refine ⟨fun h => ?_, fun h => ?_⟩; rotate_left 1; (focus (exfalso; (first | (with_reducible (cases h; done)) | (revert h; simp; done) | (revert h; simp; omega) | (revert h; simp [*]; done)))); clear h) | (refine ⟨fun h => ?_, fun h => ?_⟩; (focus (exfalso; (first | (with_reducible (cases h; done)) | (revert h; simp; done) | (revert h; simp; omega) | (revert h; simp [*]; done)))); clear h))
    exact ⟨_, Ent.nil _, .inl ⟨w, rfl, rfl⟩⟩
  rw [decide_eq_true w]
  repeat (first | (refine ⟨fun h => ?_, fun h => ?_⟩; rotate_left 1; (focus (exfalso; (first | (with_reducible (cases h; done)) | (revert h; simp; done) | (revert h; simp; omega) | (revert h; simp [*]; done)))); clear h) | (refine ⟨fun h => ?_, fun h => ?_⟩; (focus (exfalso; (first | (with_reducible (cases h; done)) | (revert h; simp; done) | (revert h; simp; omega) | (revert h; simp [*]; done)))); clear h))
  have hn : p.sums.length ≤ 16 := w.wf.n2
  have hn2 : (p.dt.length : Int) ≤ 65536 := w.wf.s1
  have hd' := hd
  obtain ⟨A, cap, rfl, hc, hdr⟩ := hd'
  refine ⟨[0], .cut (.q 0 (.q 1 (.q 2 (.q 3 (.q 4 (.q 5 (.q 6 (.two 7 (.q 8 (.one 9 (.one 10 .nil))) 9 (.one 7 (.q 8 (.one 10 .nil))))))))))), by kernel_rfl, [none, none, none, none, some 4, none, none, none, some 8, some 9, some 10, some 11, some 12, some 13, some 14, some 15, some 16], ?_⟩
  refine ⟨[4], Nat × Option Addr × Nat, fun ⟨g4, C, cc⟩ => grow p.sums.length C ∧ p.sums.length ≤ cc, fun ⟨g4, _⟩ => [.pointer (some ⟨g4, 0, .none⟩)], fun ⟨g4, C, cc⟩ => [.blk g4 65 (hdC p.hd (.slice C p.sums.length cc)), .row C p.sums.length cc 9 1 (SV p.sums) (0, 0)], ?_, ?_⟩
  · refine ⟨_, rdOff (o := 0) (n := 2) 0 rfl rfl, rfl, ?_⟩
    refine ⟨_, ld 0 rfl rfl, ?_⟩
    refine ⟨_, ld 0 rfl rfl, ?_⟩
    refine ⟨?_, ?_⟩
    · refine ⟨[], _, CloneS_ok _ p.sums S (by omega) ((hs.rh _).rh _), ?_⟩
      rintro _ _ ⟨C, cc, rfl, rfl, hg, hcc⟩
      intro g4
      refine ⟨rfl, rfl, 1, rfl, rfl, Nat.le_of_ble_eq_true rfl, ?_⟩
      exact ⟨rfl, (g4, C, cc), ⟨hg, hcc⟩, ⟨rfl, trivial⟩, Ent.pick [1, 0] rfl, rfl⟩
    · intro g4
      refine ⟨[], _, CloneS_ok _ p.sums S (by omega) ((hs.rh _).rh _), ?_⟩
      rintro _ _ ⟨C, cc, rfl, rfl, hg, hcc⟩
      refine ⟨rfl, rfl, 0, rfl, rfl, Nat.le_of_ble_eq_true rfl, ?_⟩
      exact ⟨rfl, (g4, C, cc), ⟨hg, hcc⟩, ⟨rfl, trivial⟩, Ent.refl _, rfl⟩
  rintro ⟨g4, C, cc⟩ ⟨hg, hcc⟩ js
  refine ⟨[0,0], (.q 0 (.q 1 (.q 2 (.one 3 (.q 4 (.one 5 (.q 6 (.q 7 .nil)))))))), by kernel_rfl, ?_⟩
  refine ⟨_, rdOff (o := 0) (n := 4) 1 rfl rfl, rfl, ?_⟩
  refine ⟨_, ld 0 rfl rfl, ?_⟩
  refine ⟨[], _, CloneB_ok _ p.dt _ (by omega) ((hd.rh _).rh _), ?_⟩
  rintro _ _ ⟨D, cd, rfl, rfl, hgd, hcd⟩
  intro g
  exact ⟨_, Ent.pick [4, 2, 2] rfl, .inr ⟨w, g, rfl, C, cc, D, cd, hg, hcc, hgd, hcd, rfl⟩⟩

theorem SHead_ok (R : Rd) {g : Nat} {p : Pc} (hn : p.sums.length ≤ 1000000) (h : SdR R g p) : Fn Tryd.prog 22 [.pointer (some ⟨g, 0, .none⟩)] [] R
      (fun v hp => ∃ C cc, v = .agg ⟨hdC p.hd (.slice C p.sums.length cc)⟩ ∧ hp = [.row C p.sums.length cc 9 1 (SV p.sums) (0, 0)] ∧ grow p.sums.length C ∧ p.sums.length ≤ cc) := by
  obtain ⟨S, D, hc, hs, hd⟩ := h
  refine fn_of_vc mixed tabOk Tryd.func22 rfl (by kernel_rfl) (Nat.le_of_ble_eq_true rfl) ?_
  intro g2
  refine ⟨[], _, clone_ok _ g p.hd S hn (hc.pre.rh _) (hs.rh _), ?_⟩
  rintro _ _ ⟨C, cc, rfl, rfl, hg, hcc⟩
  refine ⟨rfl, rfl, 0, rfl, rfl, Nat.le_of_ble_eq_true rfl, ?_⟩
  refine ⟨_, rdOff (o := 0) (n := 4) 0 rfl rfl, rfl, ?_⟩
  exact ⟨_, Ent.pick [1] rfl, C, cc, rfl, rfl, hg, hcc⟩
theorem SParts_ok (R : Rd) {g : Nat} {p : Pc} (hn : p.dt.length ≤ 1000000) (h : SdR R g p) : Fn Tryd.prog 42 [.pointer (some ⟨g, 0, .none⟩)] [] R (fun v hp => v = .int .i64 (partsN p.dt.length) ∧ hp = []) := by
  obtain ⟨S, D, hc, hs, A, cap, rfl, hd⟩ := h
  refine fn_of_vc mixed tabOk Tryd.func42 rfl (by kernel_rfl) (Nat.le_of_ble_eq_true rfl) ?_
  refine ⟨_, .inl (hc 4 _ rfl), ?_⟩
  refine ⟨[], _, partsOf_ok _ p.dt.length (by omega), ?_⟩
  rintro _ _ ⟨rfl, rfl⟩
  exact ⟨_, Ent.refl _, rfl, rfl⟩

/-- The part of a piece at an offset. -/
def partAt (p : Pc) (i : Nat) : Pt := ⟨p.st, p.ix, ((i * 512 : Nat) : Int), blockOf p.dt 512 i, pathOf (blockLeaves 512 p.dt) i⟩
theorem there_good {x : Str} {off : Int} (h : thereB x.length off = true) : goodB x 512 ((off.toNat / 512 : Nat) : Int) := by
  have h := of_decide_eq_true h
  refine ⟨by decide, by omega, ?_⟩
  have e := blockLeaves_length (s := 512) (by omega) _ x rfl
  show _ < ((blockLeaves 512 x).length : Int)
  rw [e, countN, if_neg (by omega)]
  omega
/-- A part and an error. -/
def OutP (x : Pt) (v : Value) (h : Hp) : Prop := ∃ A cap B cb, v = .tuple ⟨[.agg ⟨ptC x (.slice A x.dt.length cap) (.slice B x.path.length cb)⟩, .int .i64 0]⟩ ∧
    h = [.row A x.dt.length cap 5 1 (BV x.dt) (0, 0), .row B x.path.length cb 9 1 (SV x.path) (0, 0)] ∧ grow x.dt.length A ∧ x.dt.length ≤ cap ∧ grow x.path.length B ∧ x.path.length ≤ cb
set_option maxRecDepth 100000 in
set_option maxHeartbeats 2000000 in
theorem SPart_ok (R : Rd) (hG : ShaG R) {g : Nat} {p : Pc} (hn : p.dt.length ≤ 1000000) (off : Int) (h1 : -9223372036854775808 ≤ off) (h2 : off ≤ 9223372036854775807) (h : SdR R g p) :
    Fn Tryd.prog 27 [.pointer (some ⟨g, 0, .none⟩), .int .i64 off] [] R
      (fun v hp => (thereB p.dt.length off = false ∧ v = .tuple ⟨[.agg ⟨ptC Pt0 (.slice .none 0 0) (.slice .none 0 0)⟩, .int .i64 1]⟩ ∧ hp = []) ∨ (thereB p.dt.length off = true ∧ OutP (partAt p (off.toNat / 512)) v hp)) := by
  obtain ⟨S, D, hc, hs, A, cap, rfl, hcd, hd⟩ := h
  refine fn_of_vc mixed tabOk Tryd.func27 rfl (by kernel_rfl) (Nat.le_of_ble_eq_true rfl) ?_
  intro g2
  refine ⟨_, .inl (hc 4 _ rfl), ?_⟩
  refine ⟨[], _, number_ok42 _ off p.dt.length h1 h2, ?_⟩
  rintro _ _ ⟨rfl, rfl⟩
  cases ht : thereB p.dt.length off
  · rw [if_neg (by decide)]
    repeat (first | (refine ⟨fun h => ?_, fun h => ?_⟩; rotate_left 1; (focus (exfalso; (first | (with_reducible (cases h; done)) | (revert h; simp; done) | (revert h; simp; omega) | (revert h; simp [*]; done)))); clear h) | (refine ⟨fun h => ?_, fun h => ?_⟩; (focus (exfalso; (first | (with_reducible (cases h; done)) | (revert h; simp; done) | (revert h; simp; omega) | (revert h; simp [*]; done)))); clear h))
    refine ⟨rfl, rfl, 0, rfl, rfl, Nat.le_of_ble_eq_true rfl, ?_⟩
    refine ⟨_, rdOff (o := 0) (n := 5) 0 rfl rfl, rfl, ?_⟩
    exact ⟨_, Ent.nil _, .inl ⟨rfl, rfl, rfl⟩⟩
  rw [if_pos rfl]
  repeat (first | (refine ⟨fun h => ?_, fun h => ?_⟩; rotate_left 1; (focus (exfalso; (first | (with_reducible (cases h; done)) | (revert h; simp; done) | (revert h; simp; omega) | (revert h; simp [*]; done)))); clear h) | (refine ⟨fun h => ?_, fun h => ?_⟩; (focus (exfalso; (first | (with_reducible (cases h; done)) | (revert h; simp; done) | (revert h; simp; omega) | (revert h; simp [*]; done)))); clear h))
  refine ⟨_, .inl (hc 4 _ rfl), ?_⟩
  have hgd := there_good ht
  refine ⟨[], _, Show_okc _ (hG.rh _) p.dt A cap 512 ((off.toNat / 512 : Nat) : Int) (by omega) (by omega) hcd (hd.rh _), ?_⟩
  rintro _ _ (⟨hno, _⟩ | ⟨_, A1, c1, bs, A2, c2, pp, rfl, hg2, hg1, hc2, hc1, rfl, hbs, hpp⟩)
  · exact absurd hgd hno
  repeat (first | (refine ⟨fun h => ?_, fun h => ?_⟩; rotate_left 1; (focus (exfalso; (first | (with_reducible (cases h; done)) | (revert h; simp; done) | (revert h; simp; omega) | (revert h; simp [*]; done)))); clear h) | (refine ⟨fun h => ?_, fun h => ?_⟩; (focus (exfalso; (first | (with_reducible (cases h; done)) | (revert h; simp; done) | (revert h; simp; omega) | (revert h; simp [*]; done)))); clear h))
  refine ⟨_, (hc.rh _).rd 0 2 rfl, rfl, ?_⟩
  refine ⟨rfl, rfl, 0, rfl, rfl, Nat.le_of_ble_eq_true rfl, ?_⟩
  refine ⟨_, rdOff (o := 0) (n := 5) 0 rfl rfl, rfl, ?_⟩
  have hbs : bs = (partAt p (off.toNat / 512)).dt := hbs
  have hpp : pp = (partAt p (off.toNat / 512)).path := hpp
  subst hbs hpp
  have ho := of_decide_eq_true ht
  refine ⟨_, Ent.pick [2, 1] rfl, .inr ⟨rfl, A1, c1, A2, c2, ?_, rfl, hg1, hc1, hg2, hc2⟩⟩
  have e : off = ((off.toNat / 512 * 512 : Nat) : Int) := by omega
  show Value.tuple ⟨[.agg ⟨[.string ⟨⟨p.st⟩⟩, .int .i64 p.ix, .int .i64 off, _, _]⟩, _]⟩ = .tuple ⟨[.agg ⟨[.string ⟨⟨p.st⟩⟩, .int .i64 p.ix, .int .i64 ((off.toNat / 512 * 512 : Nat) : Int), _, _]⟩, _]⟩
  rw [← e]

end Go.Proofs.YtgnmbgbiajgpeaaDoor
