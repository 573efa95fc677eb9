/-
  The law SnapshotSums.
-/
import Derived.Test.YtoddabjacjkjbaaDoorS3
namespace Go.Proofs.YtoddabjacjkjbaaDoor
open Go Go.RowKit
set_option linter.unusedVariables false

abbrev RfShp : Shp := .fc 0 1 .str (.fc 1 1 (.int .i64) (.fc 2 1 (.int .i64) (.f0 3)))
abbrev SnShp : Shp := .fc 0 1 (.int .i64) (.fc 1 1 (.int .i64) (.fc 2 1 (.int .i64) (.fc 3 3 RfShp (.fc 6 1 (.int .i64) (.fc 7 1 (.int .i64) (.fc 8 1 .str (.fc 9 1 .bool (.f0 10))))))))
theorem Snap.of {R : Rd} {xs : List Value} (hs : Seen R SnShp xs) : ∃ s : Snap, s.Ok ∧ xs = s.cells := by
  obtain ⟨⟨n0, e0, b0⟩, ⟨n1, e1, b1⟩, ⟨n2, e2, b2⟩, ⟨⟨x3, e3, b3⟩, ⟨n4, e4, b4⟩, ⟨n5, e5, b5⟩, _⟩, ⟨n6, e6, b6⟩, ⟨n7, e7, b7⟩, ⟨x8, e8, b8⟩, ⟨x9, e9⟩, hl⟩ := hs
  have hML := maxLen_eq
  have w : ∀ {n : Int}, (Lit.int .i64 n).wf = true → -9223372036854775808 ≤ n ∧ n ≤ 9223372036854775807 := fun {n} h => by
    simpa [Lit.wf, IntKind.has, IntKind.min, IntKind.max, IntKind.bits, IntKind.signed] using h
  match xs, hl with
  | [v0, v1, v2, v3, v4, v5, v6, v7, v8, v9], _ =>
    simp only [List.drop_zero, List.drop_succ_cons, List.take_succ_cons, List.take_zero, List.cons.injEq, and_true] at e0 e1 e2 e3 e4 e5 e6 e7 e8 e9
    subst e0 e1 e2 e3 e4 e5 e6 e7 e8 e9
    obtain ⟨⟨x3⟩⟩ := x3
    obtain ⟨⟨x8⟩⟩ := x8
    have h3 : x3.length ≤ maxLen := b3
    have h8 : x8.length ≤ maxLen := b8
    exact ⟨⟨n0, n1, n2, x3, n4, n5, n6, n7, x8, x9⟩, ⟨(w b0).1, (w b0).2, (w b1).1, (w b1).2, (w b2).1, (w b2).2, by show x3.length ≤ _; omega, (w b4).1, (w b4).2, (w b5).1, (w b5).2, (w b6).1, (w b6).2, (w b7).1, (w b7).2, by show x8.length ≤ _; omega⟩, rfl⟩
theorem SeenV.snap {R : Rd} {v : Value} (h : SeenV R SnShp v) : ∃ s : Snap, s.Ok ∧ v = .agg ⟨s.cells⟩ := by
  obtain ⟨h1, cs, rfl⟩ := h
  obtain ⟨s, hs, e⟩ := Snap.of h1
  refine ⟨s, hs, ?_⟩
  have e : cs.toList = s.cells := e
  rw [← e]

def sumX (s : Snap) : Str := if validB s = true then sumP s else []
def sumE (s : Snap) : Int := if validB s = true then 0 else 1
theorem SumG (R : Rd) (hG : ShaG R) (s : Snap) : Fn Tryd.prog 78 [.agg ⟨s.cells⟩] [] R (fun v h => v = .tuple ⟨[.string ⟨⟨sumX s⟩⟩, .int .i64 (sumE s)]⟩ ∧ h = []) := Sum_okS R hG s

theorem Same_ok (R : Rd) (a b : Snap) : Fn Tryd.prog 170 [.agg ⟨a.cells⟩, .agg ⟨b.cells⟩] [] R (fun v h => ∃ e : Bool, v = .bool e ∧ (e = true ↔ a.bare = b.bare) ∧ h = []) := by
  refine fn_of_vc mixed tabOk Tryd.func170 rfl (by kernel_rfl) (Nat.le_of_ble_eq_true rfl) ?_
  intro g2 g3
  refine ⟨rfl, rfl, 0, rfl, rfl, Nat.le_of_ble_eq_true rfl, ?_⟩
  refine ⟨rfl, rfl, 1, rfl, rfl, Nat.le_of_ble_eq_true rfl, ?_⟩
  refine ⟨a.bare.cells, rdBlk 0 rfl, rfl, ?_⟩
  refine ⟨b.bare.cells, rdBlk 1 rfl, rfl, ?_⟩
  intro e he
  exact ⟨_, Ent.nil _, e, rfl, he.trans Snap.cells_iff, rfl⟩

end Go.Proofs.YtoddabjacjkjbaaDoor
