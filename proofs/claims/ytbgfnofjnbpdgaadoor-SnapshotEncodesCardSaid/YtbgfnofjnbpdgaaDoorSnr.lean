/-
  The law SnapshotSums.
-/
import Derived.Test.YtbgfnofjnbpdgaaDoorS3
namespace Go.Proofs.YtbgfnofjnbpdgaaDoor
open Go Go.RowKit
set_option linter.unusedVariables false

abbrev RfShp : Shp := .fc 0 1 .str (.fc 1 1 (.int .i64) (.fc 2 1 (.int .i64) (.f0 3)))
abbrev SnShp : Shp := .fc 0 1 (.int .i64) (.fc 1 1 (.int .i64) (.fc 2 1 (.int .i64) (.fc 3 3 RfShp (.fc 6 1 (.int .i64) (.fc 7 1 (.int .i64) (.fc 8 1 .str (.fc 9 1 .bool (.f0 10))))))))
theorem Snap.of {R : Rd} {xs : List Value} (hs : Seen R SnShp xs) : ∃ s : Snap, s.Ok ∧ xs = s.cells := by
  obtain ⟨⟨n0, e0, b0⟩, ⟨n1, e1, b1⟩, ⟨n2, e2, b2⟩, ⟨⟨x3, e3, b3⟩, ⟨n4, e4, b4⟩, ⟨n5, e5, b5⟩, _⟩, ⟨n6, e6, b6⟩, ⟨n7, e7, b7⟩, ⟨x8, e8, b8⟩, ⟨x9, e9⟩, hl⟩ := hs
  have hML := maxLen_eq
  have w : ∀ {n : Int}, (Lit.int .i64 n).wf = true → -9223372036854775808 ≤ n ∧ n ≤ 9223372036854775807 := fun {n} h => by
    simpa [Lit.wf, IntKind.has, IntKind.min, IntKind.max, IntKind.bits, IntKind.signed] using h
  match xs, hl with
  | [v0, v1, v2, v3, v4, v5, v6, v7, v8, v9], _ =>
    simp only [List.drop_zero, List.drop_succ_cons, List.take_succ_cons, List.take_zero, List.cons.injEq, and_true] at e0 e1 e2 e3 e4 e5 e6 e7 e8 e9
    subst e0 e1 e2 e3 e4 e5 e6 e7 e8 e9
    obtain ⟨⟨x3⟩⟩ := x3
    obtain ⟨⟨x8⟩⟩ := x8
    have h3 : x3.length ≤ maxLen := b3
    have h8 : x8.length ≤ maxLen := b8
    exact ⟨⟨n0, n1, n2, x3, n4, n5, n6, n7, x8, x9⟩, ⟨(w b0).1, (w b0).2, (w b1).1, (w b1).2, (w b2).1, (w b2).2, by show x3.length ≤ _; omega, (w b4).1, (w b4).2, (w b5).1, (w b5).2, (w b6).1, (w b6).2, (w b7).1, (w b7).2, by show x8.length ≤ _; omega⟩, rfl⟩
theorem SeenV.snap {R : Rd} {v : Value} (h : SeenV R SnShp v) : ∃ s : Snap, s.Ok ∧ v = .agg ⟨s.cells⟩ := by
  obtain ⟨h1, cs, rfl⟩ := h
  obtain ⟨s, hs, e⟩ := Snap.of h1
  refine ⟨s, hs, ?_⟩
  have e : cs.toList = s.cells := e
  rw [← e]

def sumX (s : Snap) : Str := if validB s = true then sumP s else []
def sumE (s : Snap) : Int := if validB s = true then 0 else 1
theorem SumG (R : Rd) (hG : ShaG R) (s : Snap) : Fn Tryd.prog 20 [.agg ⟨s.cells⟩] [] R (fun v h => v = .tuple ⟨[.string ⟨⟨sumX s⟩⟩, .int .i64 (sumE s)]⟩ ∧ h = []) := Sum_okS R hG s

theorem Same_ok (R : Rd) (a b : Snap) : Fn Tryd.prog 24 [.agg ⟨a.cells⟩, .agg ⟨b.cells⟩] [] R (fun v h => ∃ e : Bool, v = .bool e ∧ (e = true ↔ a.bare = b.bare) ∧ h = []) := by
  refine fn_of_vc mixed tabOk Tryd.func24 rfl (by kernel_rfl) (Nat.le_of_ble_eq_true rfl) ?_
  intro g2 g3
  refine ⟨rfl, rfl, 0, rfl, rfl, Nat.le_of_ble_eq_true rfl, ?_⟩
  refine ⟨rfl, rfl, 1, rfl, rfl, Nat.le_of_ble_eq_true rfl, ?_⟩
  refine ⟨a.bare.cells, rdBlk 0 rfl, rfl, ?_⟩
  refine ⟨b.bare.cells, rdBlk 1 rfl, rfl, ?_⟩
  intro e he
  exact ⟨_, Ent.nil _, e, rfl, he.trans Snap.cells_iff, rfl⟩

set_option maxRecDepth 100000 in
set_option maxHeartbeats 4000000 in
theorem SnapshotSums_law (R : Rd) (hG : ShaG R) (v0 v1 : Value) (s0 : SeenV R SnShp v0) (s1 : SeenV R SnShp v1) :
    Fn Tryd.prog 6 [v0, v1] [] R (fun v _ => v = .bool true) := by
  obtain ⟨a, ha, rfl⟩ := s0.snap
  obtain ⟨b, hb, rfl⟩ := s1.snap
  have hc : ∀ (R : Rd), ShaG R → Fn Tryd.prog 20 [.agg ⟨({ a with hd := !a.hd } : Snap).cells⟩] [] R (fun v h => v = .tuple ⟨[.string ⟨⟨sumX a⟩⟩, .int .i64 (sumE a)]⟩ ∧ h = []) := fun R hG => SumG R hG { a with hd := !a.hd }
  have hsame : a.bare = b.bare → sumX a = sumX b := fun h => by
    show sumX a.bare = sumX b.bare
    rw [h]
  have hA : ∀ (R : Rd), ShaG R → Fn Tryd.prog 20 [.agg ⟨a.cells⟩] [] R (fun v h => v = .tuple ⟨[.string ⟨⟨sumX a⟩⟩, .int .i64 (sumE a)]⟩ ∧ h = []) := fun R hG => SumG R hG a
  have hB : ∀ (R : Rd), ShaG R → Fn Tryd.prog 20 [.agg ⟨b.cells⟩] [] R (fun v h => v = .tuple ⟨[.string ⟨⟨sumX b⟩⟩, .int .i64 (sumE b)]⟩ ∧ h = []) := fun R hG => SumG R hG b
  generalize sumX a = xa at *
  generalize sumX b = xb at *
  generalize sumE a = ea at *
  generalize sumE b = eb at *
  refine fn_of_vc mixed tabOk Tryd.func6 rfl (by kernel_rfl) (Nat.le_of_ble_eq_true rfl) ?_
  intro g2 g3
  refine ⟨[], _, awake26_ok _ (hG.rh _), ?_⟩
  rintro _ _ ⟨rfl, rfl⟩
  repeat (first | (refine ⟨fun h => ?_, fun h => ?_⟩; rotate_left 1; (focus (exfalso; (first | (with_reducible (cases h; done)) | (revert h; simp; done) | (revert h; simp; omega) | (revert h; simp [*]; done)))); clear h) | (refine ⟨fun h => ?_, fun h => ?_⟩; (focus (exfalso; (first | (with_reducible (cases h; done)) | (revert h; simp; done) | (revert h; simp; omega) | (revert h; simp [*]; done)))); clear h))
  refine ⟨a.cells, rdBlk 0 rfl, rfl, ?_⟩
  refine ⟨[], _, hA _ (hG.rh _), ?_⟩
  rintro _ _ ⟨rfl, rfl⟩
  refine ⟨b.cells, rdBlk 1 rfl, rfl, ?_⟩
  refine ⟨[], _, hB _ (hG.rh _), ?_⟩
  rintro _ _ ⟨rfl, rfl⟩
  refine ⟨a.cells, rdBlk 0 rfl, rfl, ?_⟩
  intro g9
  refine ⟨rfl, rfl, 2, rfl, rfl, Nat.le_of_ble_eq_true rfl, ?_⟩
  refine ⟨_, ld 2 rfl rfl, ?_⟩
  refine ⟨rfl, rfl, 2, rfl, rfl, Nat.le_of_ble_eq_true rfl, ?_⟩
  refine ⟨({ a with hd := !a.hd } : Snap).cells, rdBlk 2 rfl, rfl, ?_⟩
  refine ⟨[], _, hc _ (hG.rh _), ?_⟩
  rintro _ _ ⟨rfl, rfl⟩
  repeat (first | (refine ⟨fun h => ?_, fun h => ?_⟩; rotate_left 1; (focus (exfalso; (first | (with_reducible (cases h; done)) | (revert h; simp; done) | (revert h; simp; omega) | (revert h; simp [*]; done)))); clear h) | (refine ⟨fun h => ?_, fun h => ?_⟩; (focus (exfalso; (first | (with_reducible (cases h; done)) | (revert h; simp; done) | (revert h; simp; omega) | (revert h; simp [*]; done)))); clear h))
  by_cases he : ea = 0
  · by_cases hf : eb = 0
    · repeat (first | (refine ⟨fun h => ?_, fun h => ?_⟩; rotate_left 1; (focus (exfalso; (first | (with_reducible (cases h; done)) | (revert h; simp; done) | (revert h; simp; omega) | (revert h; simp [*]; done)))); clear h) | (refine ⟨fun h => ?_, fun h => ?_⟩; (focus (exfalso; (first | (with_reducible (cases h; done)) | (revert h; simp; done) | (revert h; simp; omega) | (revert h; simp [*]; done)))); clear h))
      refine ⟨a.cells, rdBlk 0 rfl, rfl, ?_⟩
      refine ⟨b.cells, rdBlk 1 rfl, rfl, ?_⟩
      refine ⟨[], _, Same_ok _ a b, ?_⟩
      rintro _ _ ⟨e, rfl, hee, rfl⟩
      cases e
      · repeat (first | (refine ⟨fun h => ?_, fun h => ?_⟩; rotate_left 1; (focus (exfalso; (first | (with_reducible (cases h; done)) | (revert h; simp; done) | (revert h; simp; omega) | (revert h; simp [*]; done)))); clear h) | (refine ⟨fun h => ?_, fun h => ?_⟩; (focus (exfalso; (first | (with_reducible (cases h; done)) | (revert h; simp; done) | (revert h; simp; omega) | (revert h; simp [*]; done)))); clear h))
        exact ⟨_, Ent.nil _, rfl⟩
      · have hx := hsame (hee.1 rfl)
        subst hx
        repeat (first | (refine ⟨fun h => ?_, fun h => ?_⟩; rotate_left 1; (focus (exfalso; (first | (with_reducible (cases h; done)) | (revert h; simp; done) | (revert h; simp; omega) | (revert h; simp [*]; done)))); clear h) | (refine ⟨fun h => ?_, fun h => ?_⟩; (focus (exfalso; (first | (with_reducible (cases h; done)) | (revert h; simp; done) | (revert h; simp; omega) | (revert h; simp [*]; done)))); clear h))
        refine ⟨_, Ent.nil _, ?_⟩
        simp only [decide_true]
        rfl
    · repeat (first | (refine ⟨fun h => ?_, fun h => ?_⟩; rotate_left 1; (focus (exfalso; (first | (with_reducible (cases h; done)) | (revert h; simp; done) | (revert h; simp; omega) | (revert h; simp [*]; done)))); clear h) | (refine ⟨fun h => ?_, fun h => ?_⟩; (focus (exfalso; (first | (with_reducible (cases h; done)) | (revert h; simp; done) | (revert h; simp; omega) | (revert h; simp [*]; done)))); clear h))
      exact ⟨_, Ent.nil _, rfl⟩
  · repeat (first | (refine ⟨fun h => ?_, fun h => ?_⟩; rotate_left 1; (focus (exfalso; (first | (with_reducible (cases h; done)) | (revert h; simp; done) | (revert h; simp; omega) | (revert h; simp [*]; done)))); clear h) | (refine ⟨fun h => ?_, fun h => ?_⟩; (focus (exfalso; (first | (with_reducible (cases h; done)) | (revert h; simp; done) | (revert h; simp; omega) | (revert h; simp [*]; done)))); clear h))
    exact ⟨_, Ent.nil _, rfl⟩

end Go.Proofs.YtbgfnofjnbpdgaaDoor
