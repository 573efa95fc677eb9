/-
  Transfer: contracts of the small functions.
-/
import Derived.Test.YtgnmbgbiajgpeaaDoorTra
import Derived.Test.YtgnmbgbiajgpeaaDoorM2
namespace Go.Proofs.YtgnmbgbiajgpeaaDoor
open Go Go.RowKit
set_option linter.unusedVariables false

def hdC (h : Hd) (B : Value) : List Value := [.string ⟨⟨h.st⟩⟩, .int .i64 h.ix, .int .i64 h.sz, B]
def ptC (p : Pt) (D B : Value) : List Value := [.string ⟨⟨p.st⟩⟩, .int .i64 p.ix, .int .i64 p.off, D, B]
/-- Cells that are read from the head of a block on. -/
def CellsAt (R : Rd) (g : Nat) (cs : List Value) : Prop := ∀ j u, cs[j]? = some u → R ⟨g, j, .none⟩ u
theorem CellsAt.rh {R : Rd} {g : Nat} {cs : List Value} (h : CellsAt R g cs) (hp : Hp) : CellsAt (RH R hp) g cs := fun j u hu => .inl (h j u hu)
theorem CellsAt.own {R : Rd} {h : Hp} (i : Nat) {g : Nat} {t : TypeId} {cs : List Value} (hi : h[i]? = some (.blk g t cs)) : CellsAt (RH R h) g cs := fun j u hu => ld i hi hu
theorem CellsAt.pre {R : Rd} {g : Nat} {a b : List Value} (h : CellsAt R g (a ++ b)) : CellsAt R g a := fun j u hu => h j u (by rw [List.getElem?_append_left (List.getElem?_eq_some_iff.1 hu).1]; exact hu)
theorem CellsAt.rd {R : Rd} {g : Nat} {cs : List Value} (h : CellsAt R g cs) (o n : Nat) {vs : List Value} (hv : vs = (cs.drop o).take n) : ∀ j u, vs[j]? = some u → R ((⟨g, o, .none⟩ : Addr).add j) u := by
  intro j u hu
  rw [addA_eq]
  subst hv
  rw [List.getElem?_take] at hu
  split at hu
  · rw [List.getElem?_drop] at hu
    have := h _ _ hu
    cases j with
    | zero => exact this
    | succ j => exact this
  · cases hu
theorem rdOff {R : Rd} {h : Hp} (i : Nat) {g o n : Nat} {t : TypeId} {cs vs : List Value} (hi : h[i]? = some (.blk g t cs)) (hv : vs = (cs.drop o).take n) : ∀ j u, vs[j]? = some u → RH R h ((⟨g, o, .none⟩ : Addr).add j) u :=
  (CellsAt.own i hi).rd o n hv

theorem no_D {p : Prop} [Decidable p] {b : Bool} (hb : b = false) (hn : ¬ p) : Value.bool b = .bool (decide p) := by rw [decide_eq_false hn, hb]
theorem yes_D {p : Prop} [Decidable p] {b : Bool} (hb : b = true) (hn : p) : Value.bool b = .bool (decide p) := by rw [decide_eq_true hn, hb]
theorem isID_ok (R : Rd) (s : Str) (ix m : Int) : Fn Tryd.prog 68 [.agg ⟨[.string ⟨⟨s⟩⟩, .int .i64 ix]⟩, .int .i64 m] [] R (fun v h => v = .bool (decide (s.length = 32 ∧ 0 ≤ ix ∧ ix < m)) ∧ h = []) := by
  refine fn_of_vc mixed tabOk Tryd.func68 rfl (by kernel_rfl) (Nat.le_of_ble_eq_true rfl) ?_
  intro g
  refine ⟨_, ld 0 rfl rfl, ?_⟩
  by_cases c1 : (s.length : Int) = 32
  case neg =>
    repeat (first | (refine ⟨fun h => ?_, fun h => ?_⟩; rotate_left 1; (focus (exfalso; (first | (with_reducible (cases h; done)) | (revert h; simp; done) | (revert h; simp; omega) | (revert h; simp [*]; done)))); clear h) | (refine ⟨fun h => ?_, fun h => ?_⟩; (focus (exfalso; (first | (with_reducible (cases h; done)) | (revert h; simp; done) | (revert h; simp; omega) | (revert h; simp [*]; done)))); clear h))
    exact ⟨_, Ent.nil _, no_D rfl (fun h => c1 (by omega)), rfl⟩
  repeat (first | (refine ⟨fun h => ?_, fun h => ?_⟩; rotate_left 1; (focus (exfalso; (first | (with_reducible (cases h; done)) | (revert h; simp; done) | (revert h; simp; omega) | (revert h; simp [*]; done)))); clear h) | (refine ⟨fun h => ?_, fun h => ?_⟩; (focus (exfalso; (first | (with_reducible (cases h; done)) | (revert h; simp; done) | (revert h; simp; omega) | (revert h; simp [*]; done)))); clear h))
  refine ⟨_, ld 0 rfl rfl, ?_⟩
  by_cases c2 : 0 ≤ ix
  case neg =>
    repeat (first | (refine ⟨fun h => ?_, fun h => ?_⟩; rotate_left 1; (focus (exfalso; (first | (with_reducible (cases h; done)) | (revert h; simp; done) | (revert h; simp; omega) | (revert h; simp [*]; done)))); clear h) | (refine ⟨fun h => ?_, fun h => ?_⟩; (focus (exfalso; (first | (with_reducible (cases h; done)) | (revert h; simp; done) | (revert h; simp; omega) | (revert h; simp [*]; done)))); clear h))
    exact ⟨_, Ent.nil _, no_D rfl (fun h => c2 h.2.1), rfl⟩
  repeat (first | (refine ⟨fun h => ?_, fun h => ?_⟩; rotate_left 1; (focus (exfalso; (first | (with_reducible (cases h; done)) | (revert h; simp; done) | (revert h; simp; omega) | (revert h; simp [*]; done)))); clear h) | (refine ⟨fun h => ?_, fun h => ?_⟩; (focus (exfalso; (first | (with_reducible (cases h; done)) | (revert h; simp; done) | (revert h; simp; omega) | (revert h; simp [*]; done)))); clear h))
  refine ⟨_, ld 0 rfl rfl, ?_⟩
  by_cases c3 : ix < m
  case neg =>
    repeat (first | (refine ⟨fun h => ?_, fun h => ?_⟩; rotate_left 1; (focus (exfalso; (first | (with_reducible (cases h; done)) | (revert h; simp; done) | (revert h; simp; omega) | (revert h; simp [*]; done)))); clear h) | (refine ⟨fun h => ?_, fun h => ?_⟩; (focus (exfalso; (first | (with_reducible (cases h; done)) | (revert h; simp; done) | (revert h; simp; omega) | (revert h; simp [*]; done)))); clear h))
    exact ⟨_, Ent.nil _, no_D (decide_eq_false c3) (fun h => c3 h.2.2), rfl⟩
  repeat (first | (refine ⟨fun h => ?_, fun h => ?_⟩; rotate_left 1; (focus (exfalso; (first | (with_reducible (cases h; done)) | (revert h; simp; done) | (revert h; simp; omega) | (revert h; simp [*]; done)))); clear h) | (refine ⟨fun h => ?_, fun h => ?_⟩; (focus (exfalso; (first | (with_reducible (cases h; done)) | (revert h; simp; done) | (revert h; simp; omega) | (revert h; simp [*]; done)))); clear h))
  exact ⟨_, Ent.nil _, yes_D (decide_eq_true c3) ⟨by omega, c2, c3⟩, rfl⟩

theorem areSums42_ok (R : Rd) (l : List Str) (v0 : Value) (hl : l.length ≤ 9223372036854775807) (hs : SsR R v0 l) : Fn Tryd.prog 67 [v0] [] R (fun v h => v = .bool (sumsB l) ∧ h = []) := by
  obtain ⟨A, cap, rfl⟩ := hs.form
  refine fn_of_vc mixed tabOk Tryd.func67 rfl (by kernel_rfl) (Nat.le_of_ble_eq_true rfl) ?_
  refine ⟨[none, none, some 2, none, some 4, none, none, some 7, some 8, some 9, some 10, some 11, some 12, some 13, some 14], [7], Nat, fun i => i ≤ l.length ∧ sumsB (l.take i) = true, fun i => [.int .i64 i], fun _ => [], fun i => l.length - i, 0, ⟨Nat.zero_le _, rfl⟩, ⟨rfl, trivial⟩, Ent.refl _, ?_⟩
  rintro i ⟨hi, hg⟩ js
  refine ⟨fun hb => ?_, fun hb => ?_⟩
  · replace hb := of_decide_eq_true hb
    have hlt : i < l.length := by omega
    obtain ⟨a, rfl, hr⟩ := hs.one hlt
    refine ⟨by omega, by omega, a, rfl, _, .inl hr, ?_⟩
    have hst := sumsB_take hlt
    have hsf := @sumsB_false l i hlt
    generalize l.getD i [] = s at *
    by_cases c : (s.length : Int) = 32
    · repeat (first | (refine ⟨fun h => ?_, fun h => ?_⟩; rotate_left 1; (focus (exfalso; (first | (with_reducible (cases h; done)) | (revert h; simp; done) | (revert h; simp; omega) | (revert h; simp [*]; done)))); clear h) | (refine ⟨fun h => ?_, fun h => ?_⟩; (focus (exfalso; (first | (with_reducible (cases h; done)) | (revert h; simp; done) | (revert h; simp; omega) | (revert h; simp [*]; done)))); clear h))
      (intro z hz; obtain rfl : z = ((i + 1 : Nat) : Int) := (by first | (rw [IntKind.wrap_i64] at hz; omega) | (rw [IntKind.wrap_u64] at hz; omega) | omega); clear hz)
      exact ⟨rfl, i + 1, ⟨hlt, by rw [hst, hg]; simp; omega⟩, by show l.length - (i + 1) < l.length - i; omega, ⟨rfl, trivial⟩, Ent.refl _, rfl⟩
    · repeat (first | (refine ⟨fun h => ?_, fun h => ?_⟩; rotate_left 1; (focus (exfalso; (first | (with_reducible (cases h; done)) | (revert h; simp; done) | (revert h; simp; omega) | (revert h; simp [*]; done)))); clear h) | (refine ⟨fun h => ?_, fun h => ?_⟩; (focus (exfalso; (first | (with_reducible (cases h; done)) | (revert h; simp; done) | (revert h; simp; omega) | (revert h; simp [*]; done)))); clear h))
      exact ⟨_, Ent.refl _, by rw [hsf (by omega)]; rfl, rfl⟩
  · replace hb := of_decide_eq_false hb
    have he : i = l.length := by omega
    subst he
    rw [List.take_length] at hg
    exact ⟨_, Ent.refl _, by rw [hg]; rfl, rfl⟩

theorem no_H {h : Hd} {b : Bool} (hb : b = false) (hn : ¬ WfH h) : Value.bool b = .bool (decide (WfH h)) := by rw [decide_eq_false hn, hb]
theorem no_P {p : Pt} {b : Bool} (hb : b = false) (hn : ¬ WfP p) : Value.bool b = .bool (decide (WfP p)) := by rw [decide_eq_false hn, hb]
set_option maxRecDepth 100000 in
theorem wfH_ok (R : Rd) (g : Nat) (h : Hd) (B : Value) (hc : CellsAt R g (hdC h B)) (hs : Ss R B h.sums) :
    Fn Tryd.prog 46 [.pointer (some ⟨g, 0, .none⟩)] [] R (fun v hp => v = .bool (decide (WfH h)) ∧ hp = []) := by
  obtain ⟨A, cap, rfl, hcap, hsr⟩ := hs
  refine fn_of_vc mixed tabOk Tryd.func46 rfl (by kernel_rfl) (Nat.le_of_ble_eq_true rfl) ?_
  refine ⟨_, .inl (hc 3 _ rfl), ?_⟩
  by_cases c1 : (1 : Int) ≤ h.sums.length
  case neg =>
    repeat (first | (refine ⟨fun h => ?_, fun h => ?_⟩; rotate_left 1; (focus (exfalso; (first | (with_reducible (cases h; done)) | (revert h; simp; done) | (revert h; simp; omega) | (revert h; simp [*]; done)))); clear h) | (refine ⟨fun h => ?_, fun h => ?_⟩; (focus (exfalso; (first | (with_reducible (cases h; done)) | (revert h; simp; done) | (revert h; simp; omega) | (revert h; simp [*]; done)))); clear h))
    exact ⟨_, Ent.refl _, no_H rfl (fun w => c1 (by have := w.n1; omega)), rfl⟩
  repeat (first | (refine ⟨fun h => ?_, fun h => ?_⟩; rotate_left 1; (focus (exfalso; (first | (with_reducible (cases h; done)) | (revert h; simp; done) | (revert h; simp; omega) | (revert h; simp [*]; done)))); clear h) | (refine ⟨fun h => ?_, fun h => ?_⟩; (focus (exfalso; (first | (with_reducible (cases h; done)) | (revert h; simp; done) | (revert h; simp; omega) | (revert h; simp [*]; done)))); clear h))
  by_cases c2 : (h.sums.length : Int) ≤ 16
  case neg =>
    repeat (first | (refine ⟨fun h => ?_, fun h => ?_⟩; rotate_left 1; (focus (exfalso; (first | (with_reducible (cases h; done)) | (revert h; simp; done) | (revert h; simp; omega) | (revert h; simp [*]; done)))); clear h) | (refine ⟨fun h => ?_, fun h => ?_⟩; (focus (exfalso; (first | (with_reducible (cases h; done)) | (revert h; simp; done) | (revert h; simp; omega) | (revert h; simp [*]; done)))); clear h))
    exact ⟨_, Ent.refl _, no_H rfl (fun w => c2 (by have := w.n2; omega)), rfl⟩
  repeat (first | (refine ⟨fun h => ?_, fun h => ?_⟩; rotate_left 1; (focus (exfalso; (first | (with_reducible (cases h; done)) | (revert h; simp; done) | (revert h; simp; omega) | (revert h; simp [*]; done)))); clear h) | (refine ⟨fun h => ?_, fun h => ?_⟩; (focus (exfalso; (first | (with_reducible (cases h; done)) | (revert h; simp; done) | (revert h; simp; omega) | (revert h; simp [*]; done)))); clear h))
  refine ⟨_, .inl (hc 3 _ rfl), ?_⟩
  repeat (first | (refine ⟨fun h => ?_, fun h => ?_⟩; rotate_left 1; (focus (exfalso; (first | (with_reducible (cases h; done)) | (revert h; simp; done) | (revert h; simp; omega) | (revert h; simp [*]; done)))); clear h) | (refine ⟨fun h => ?_, fun h => ?_⟩; (focus (exfalso; (first | (with_reducible (cases h; done)) | (revert h; simp; done) | (revert h; simp; omega) | (revert h; simp [*]; done)))); clear h))
  refine ⟨[], _, areSums42_ok _ h.sums _ (by omega) (hsr.rh _), ?_⟩
  rintro _ _ ⟨rfl, rfl⟩
  cases c3 : sumsB h.sums
  · repeat (first | (refine ⟨fun h => ?_, fun h => ?_⟩; rotate_left 1; (focus (exfalso; (first | (with_reducible (cases h; done)) | (revert h; simp; done) | (revert h; simp; omega) | (revert h; simp [*]; done)))); clear h) | (refine ⟨fun h => ?_, fun h => ?_⟩; (focus (exfalso; (first | (with_reducible (cases h; done)) | (revert h; simp; done) | (revert h; simp; omega) | (revert h; simp [*]; done)))); clear h))
    exact ⟨_, Ent.refl _, no_H rfl (fun w => by have := w.sums; rw [c3] at this; cases this), rfl⟩
  repeat (first | (refine ⟨fun h => ?_, fun h => ?_⟩; rotate_left 1; (focus (exfalso; (first | (with_reducible (cases h; done)) | (revert h; simp; done) | (revert h; simp; omega) | (revert h; simp [*]; done)))); clear h) | (refine ⟨fun h => ?_, fun h => ?_⟩; (focus (exfalso; (first | (with_reducible (cases h; done)) | (revert h; simp; done) | (revert h; simp; omega) | (revert h; simp [*]; done)))); clear h))
  refine ⟨_, (hc.rh _).rd 0 2 rfl, rfl, ?_⟩
  repeat (first | (refine ⟨fun h => ?_, fun h => ?_⟩; rotate_left 1; (focus (exfalso; (first | (with_reducible (cases h; done)) | (revert h; simp; done) | (revert h; simp; omega) | (revert h; simp [*]; done)))); clear h) | (refine ⟨fun h => ?_, fun h => ?_⟩; (focus (exfalso; (first | (with_reducible (cases h; done)) | (revert h; simp; done) | (revert h; simp; omega) | (revert h; simp [*]; done)))); clear h))
  refine ⟨[], _, isID_ok _ h.st h.ix _, ?_⟩
  rintro _ _ ⟨rfl, rfl⟩
  by_cases c4 : h.st.length = 32 ∧ 0 ≤ h.ix ∧ h.ix < (h.sums.length : Int)
  case neg =>
    rw [decide_eq_false c4]
    repeat (first | (refine ⟨fun h => ?_, fun h => ?_⟩; rotate_left 1; (focus (exfalso; (first | (with_reducible (cases h; done)) | (revert h; simp; done) | (revert h; simp; omega) | (revert h; simp [*]; done)))); clear h) | (refine ⟨fun h => ?_, fun h => ?_⟩; (focus (exfalso; (first | (with_reducible (cases h; done)) | (revert h; simp; done) | (revert h; simp; omega) | (revert h; simp [*]; done)))); clear h))
    exact ⟨_, Ent.refl _, no_H rfl (fun w => c4 ⟨w.st, w.i0, w.i1⟩), rfl⟩
  rw [decide_eq_true c4]
  repeat (first | (refine ⟨fun h => ?_, fun h => ?_⟩; rotate_left 1; (focus (exfalso; (first | (with_reducible (cases h; done)) | (revert h; simp; done) | (revert h; simp; omega) | (revert h; simp [*]; done)))); clear h) | (refine ⟨fun h => ?_, fun h => ?_⟩; (focus (exfalso; (first | (with_reducible (cases h; done)) | (revert h; simp; done) | (revert h; simp; omega) | (revert h; simp [*]; done)))); clear h))
  refine ⟨_, .inl (hc 2 _ rfl), ?_⟩
  by_cases c5 : 1 ≤ h.sz
  case neg =>
    repeat (first | (refine ⟨fun h => ?_, fun h => ?_⟩; rotate_left 1; (focus (exfalso; (first | (with_reducible (cases h; done)) | (revert h; simp; done) | (revert h; simp; omega) | (revert h; simp [*]; done)))); clear h) | (refine ⟨fun h => ?_, fun h => ?_⟩; (focus (exfalso; (first | (with_reducible (cases h; done)) | (revert h; simp; done) | (revert h; simp; omega) | (revert h; simp [*]; done)))); clear h))
    exact ⟨_, Ent.refl _, no_H rfl (fun w => c5 w.s0), rfl⟩
  repeat (first | (refine ⟨fun h => ?_, fun h => ?_⟩; rotate_left 1; (focus (exfalso; (first | (with_reducible (cases h; done)) | (revert h; simp; done) | (revert h; simp; omega) | (revert h; simp [*]; done)))); clear h) | (refine ⟨fun h => ?_, fun h => ?_⟩; (focus (exfalso; (first | (with_reducible (cases h; done)) | (revert h; simp; done) | (revert h; simp; omega) | (revert h; simp [*]; done)))); clear h))
  refine ⟨_, .inl (hc 2 _ rfl), ?_⟩
  by_cases c6 : h.sz ≤ 65536
  case neg =>
    repeat (first | (refine ⟨fun h => ?_, fun h => ?_⟩; rotate_left 1; (focus (exfalso; (first | (with_reducible (cases h; done)) | (revert h; simp; done) | (revert h; simp; omega) | (revert h; simp [*]; done)))); clear h) | (refine ⟨fun h => ?_, fun h => ?_⟩; (focus (exfalso; (first | (with_reducible (cases h; done)) | (revert h; simp; done) | (revert h; simp; omega) | (revert h; simp [*]; done)))); clear h))
    exact ⟨_, Ent.refl _, no_H (decide_eq_false c6) (fun w => c6 w.s1), rfl⟩
  repeat (first | (refine ⟨fun h => ?_, fun h => ?_⟩; rotate_left 1; (focus (exfalso; (first | (with_reducible (cases h; done)) | (revert h; simp; done) | (revert h; simp; omega) | (revert h; simp [*]; done)))); clear h) | (refine ⟨fun h => ?_, fun h => ?_⟩; (focus (exfalso; (first | (with_reducible (cases h; done)) | (revert h; simp; done) | (revert h; simp; omega) | (revert h; simp [*]; done)))); clear h))
  exact ⟨_, Ent.refl _, yes_D (decide_eq_true c6) ⟨by omega, by omega, c3, c4.1, c4.2.1, c4.2.2, c5, c6⟩, rfl⟩

theorem rem_nat {a b : Nat} {x z : Int} (hx : x = (a : Int)) (hz : z = x.tmod (b : Int)) : z = ((a % b : Nat) : Int) := by
  subst hx
  rw [hz, Int.ofNat_tmod]
/-- Whether there is a part at an offset. -/
def thereB (sz off : Int) : Bool := decide (0 ≤ off ∧ off < sz ∧ off.toNat % 512 = 0)
theorem number_ok42 (R : Rd) (off n : Int) (h1 : -9223372036854775808 ≤ off) (h2 : off ≤ 9223372036854775807) :
    Fn Tryd.prog 49 [.int .i64 off, .int .i64 n] [] R (fun v h => v = .tuple ⟨[.int .i64 (if thereB n off = true then (off.toNat / 512 : Nat) else 0 : Int), .bool (thereB n off)]⟩ ∧ h = []) := by
  refine fn_of_vc mixed tabOk Tryd.func49 rfl (by kernel_rfl) (Nat.le_of_ble_eq_true rfl) ?_
  by_cases c1 : off < 0
  · repeat (first | (refine ⟨fun h => ?_, fun h => ?_⟩; rotate_left 1; (focus (exfalso; (first | (with_reducible (cases h; done)) | (revert h; simp; done) | (revert h; simp; omega) | (revert h; simp [*]; done)))); clear h) | (refine ⟨fun h => ?_, fun h => ?_⟩; (focus (exfalso; (first | (with_reducible (cases h; done)) | (revert h; simp; done) | (revert h; simp; omega) | (revert h; simp [*]; done)))); clear h))
    have e : thereB n off = false := decide_eq_false (fun h => by omega)
    exact ⟨_, Ent.refl _, by rw [e]; rfl, rfl⟩
  repeat (first | (refine ⟨fun h => ?_, fun h => ?_⟩; rotate_left 1; (focus (exfalso; (first | (with_reducible (cases h; done)) | (revert h; simp; done) | (revert h; simp; omega) | (revert h; simp [*]; done)))); clear h) | (refine ⟨fun h => ?_, fun h => ?_⟩; (focus (exfalso; (first | (with_reducible (cases h; done)) | (revert h; simp; done) | (revert h; simp; omega) | (revert h; simp [*]; done)))); clear h))
  by_cases c2 : n ≤ off
  · repeat (first | (refine ⟨fun h => ?_, fun h => ?_⟩; rotate_left 1; (focus (exfalso; (first | (with_reducible (cases h; done)) | (revert h; simp; done) | (revert h; simp; omega) | (revert h; simp [*]; done)))); clear h) | (refine ⟨fun h => ?_, fun h => ?_⟩; (focus (exfalso; (first | (with_reducible (cases h; done)) | (revert h; simp; done) | (revert h; simp; omega) | (revert h; simp [*]; done)))); clear h))
    have e : thereB n off = false := decide_eq_false (fun h => by omega)
    exact ⟨_, Ent.refl _, by rw [e]; rfl, rfl⟩
  repeat (first | (refine ⟨fun h => ?_, fun h => ?_⟩; rotate_left 1; (focus (exfalso; (first | (with_reducible (cases h; done)) | (revert h; simp; done) | (revert h; simp; omega) | (revert h; simp [*]; done)))); clear h) | (refine ⟨fun h => ?_, fun h => ?_⟩; (focus (exfalso; (first | (with_reducible (cases h; done)) | (revert h; simp; done) | (revert h; simp; omega) | (revert h; simp [*]; done)))); clear h))
  refine ⟨by decide, ?_⟩
  intro z hz
  obtain rfl := rem_nat (a := off.toNat) (b := 512) (by omega) hz
  clear hz
  by_cases c3 : ((off.toNat % 512 : Nat) : Int) = 0
  case neg =>
    repeat (first | (refine ⟨fun h => ?_, fun h => ?_⟩; rotate_left 1; (focus (exfalso; (first | (with_reducible (cases h; done)) | (revert h; simp; done) | (revert h; simp; omega) | (revert h; simp [*]; done)))); clear h) | (refine ⟨fun h => ?_, fun h => ?_⟩; (focus (exfalso; (first | (with_reducible (cases h; done)) | (revert h; simp; done) | (revert h; simp; omega) | (revert h; simp [*]; done)))); clear h))
    have e : thereB n off = false := decide_eq_false (fun h => by omega)
    exact ⟨_, Ent.refl _, by rw [e]; rfl, rfl⟩
  repeat (first | (refine ⟨fun h => ?_, fun h => ?_⟩; rotate_left 1; (focus (exfalso; (first | (with_reducible (cases h; done)) | (revert h; simp; done) | (revert h; simp; omega) | (revert h; simp [*]; done)))); clear h) | (refine ⟨fun h => ?_, fun h => ?_⟩; (focus (exfalso; (first | (with_reducible (cases h; done)) | (revert h; simp; done) | (revert h; simp; omega) | (revert h; simp [*]; done)))); clear h))
  refine ⟨by decide, ?_⟩
  intro z hz
  obtain rfl := quo_nat (a := off.toNat) (b := 512) (by omega) (by omega) hz
  clear hz
  have e : thereB n off = true := decide_eq_true (by omega)
  exact ⟨_, Ent.refl _, by rw [e]; rfl, rfl⟩

def partsN (n : Nat) : Nat := (n + 511) / 512
theorem partsOf_ok (R : Rd) (n : Nat) (hn : n ≤ 1000000000) : Fn Tryd.prog 47 [.int .i64 n] [] R (fun v h => v = .int .i64 (partsN n) ∧ h = []) := by
  refine fn_of_vc mixed tabOk Tryd.func47 rfl (by kernel_rfl) (Nat.le_of_ble_eq_true rfl) ?_
  (intro z hz; obtain rfl : z = ((n + 512 : Nat) : Int) := (by first | (rw [IntKind.wrap_i64] at hz; omega) | (rw [IntKind.wrap_u64] at hz; omega) | omega); clear hz)
  (intro z hz; obtain rfl : z = ((n + 511 : Nat) : Int) := (by first | (rw [IntKind.wrap_i64] at hz; omega) | (rw [IntKind.wrap_u64] at hz; omega) | omega); clear hz)
  refine ⟨by decide, ?_⟩
  intro z hz
  obtain rfl := quo_nat (a := n + 511) (b := 512) rfl (by omega) hz
  exact ⟨_, Ent.refl _, rfl, rfl⟩

/-! ### package slices -/
/-- A new slice with these cells, or nil. -/
def OwnC (e : TypeId) (v : Value) (n : Nat) (cells : List Value) (h : Hp) : Prop :=
  ∃ A cap, v = .slice A n cap ∧ h = [.row A n cap e 1 cells (0, 0)] ∧ grow n A ∧ n ≤ cap
theorem CloneB_ok0 (R : Rd) (x : Str) (A : Option Addr) (cap : Nat) (hx : x.length ≤ 100000000000) (hs : BsR R (.slice A x.length cap) x) :
    Fn Tryd.prog 45 [.slice A x.length cap] [] R (fun v h => ∃ A' cap', v = .slice A' x.length cap' ∧ h = [.row A' x.length cap' 5 1 (BV x) (0, 0)] ∧ grow x.length A') := by
  have hML := maxLen_eq
  refine fn_of_vc mixed tabOk Tryd.func45 rfl (by kernel_rfl) (Nat.le_of_ble_eq_true rfl) ?_
  cases A with
  | none =>
    repeat (first | (refine ⟨fun h => ?_, fun h => ?_⟩; rotate_left 1; (focus (exfalso; (first | (with_reducible (cases h; done)) | (revert h; simp; done) | (revert h; simp; omega) | (revert h; simp [*]; done)))); clear h) | (refine ⟨fun h => ?_, fun h => ?_⟩; (focus (exfalso; (first | (with_reducible (cases h; done)) | (revert h; simp; done) | (revert h; simp; omega) | (revert h; simp [*]; done)))); clear h))
    have h0 : x = [] := by
      cases x with
      | nil => rfl
      | cons b x =>
        obtain ⟨a, ha, _⟩ := hs.at_ (i := 0) (b := b) rfl
        cases ha
    subst h0
    exact ⟨_, Ent.nilrow [] 5 1, .none, 0, rfl, rfl, .inl rfl⟩
  | some a =>
    repeat (first | (refine ⟨fun h => ?_, fun h => ?_⟩; rotate_left 1; (focus (exfalso; (first | (with_reducible (cases h; done)) | (revert h; simp; done) | (revert h; simp; omega) | (revert h; simp [*]; done)))); clear h) | (refine ⟨fun h => ?_, fun h => ?_⟩; (focus (exfalso; (first | (with_reducible (cases h; done)) | (revert h; simp; done) | (revert h; simp; omega) | (revert h; simp [*]; done)))); clear h))
    refine ⟨rfl, fun g1 => ?_⟩
    refine ⟨BV x, by rw [BV_length]; exact (Nat.mul_one _).symm, (hs.rh _).src, BV_one _, by show (_ + _) * 1 ≤ _; omega, by omega, .inr ⟨0, rfl, rfl, rfl, rfl, rfl, rfl, fun A' cap' hg' => ?_⟩⟩
    rw [Nat.zero_add] at hg'
    refine ⟨_, Ent.refl _, A', cap', ?_, ?_, hg'⟩
    · show Value.slice A' (0 + x.length) cap' = _; rw [Nat.zero_add]
    · show [HA.row A' (0 + x.length) cap' 5 1 ([] ++ BV x) (0, 0)] = _; rw [Nat.zero_add, List.nil_append]

end Go.Proofs.YtgnmbgbiajgpeaaDoor
