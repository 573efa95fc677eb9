/-
  The arguments of the laws; the law SnapshotPlays.
-/
import Derived.Test.YtoddabjacjkjbaaDoorSad
import Derived.Test.YtoddabjacjkjbaaDoorSae
namespace Go.Proofs.YtoddabjacjkjbaaDoor
open Go Go.RowKit
set_option linter.unusedVariables false

abbrev OpShp : Shp := .fc 0 1 (.int .i64) (.fc 1 10 SnShp (.fc 11 1 (.int .i64) (.fc 12 1 (.int .i64) (.fc 13 1 (.int .i64) (.fc 14 1 .bool (.f0 15))))))
theorem SOp.of {R : Rd} {xs : List Value} (hs : Seen R OpShp xs) : ∃ x : SOp, x.s.Ok ∧ xs = x.cells := by
  obtain ⟨⟨n0, e0, _⟩, hsn, ⟨n2, e2, _⟩, ⟨n3, e3, _⟩, ⟨n4, e4, _⟩, ⟨x5, e5⟩, hl⟩ := hs
  obtain ⟨s, hok, e1⟩ := Snap.of hsn
  match xs, hl with
  | [v0, v1, v2, v3, v4, v5, v6, v7, v8, v9, v10, v11, v12, v13, v14], _ =>
    simp only [List.drop_zero, List.drop_succ_cons, List.take_succ_cons, List.take_zero, List.cons.injEq, and_true, Snap.cells] at e0 e1 e2 e3 e4 e5
    obtain ⟨a1, a2, a3, a4, a5, a6, a7, a8, a9, a10⟩ := e1
    subst e0 e2 e3 e4 e5 a1 a2 a3 a4 a5 a6 a7 a8 a9 a10
    exact ⟨⟨n0, s, n2, n3, n4, x5⟩, hok, rfl⟩
theorem SeenV.sops {R : Rd} {v : Value} (h : SeenV R (.sl 15 OpShp) v) : ∃ (l : List SOp) (A : Option Addr) (cap : Nat), (∀ x ∈ l, x.s.Ok) ∧ v = .slice A l.length cap ∧ SOpsR R A cap l := by
  obtain ⟨l, hok, _, hs⟩ := h.slice SOp.cells (fun x => x.s.Ok) (fun _ _ => rfl) fun _ _ hx => SOp.of hx
  have hs0 := hs
  obtain ⟨_, A, cap, rfl, _⟩ := hs
  exact ⟨l, A, cap, hok, rfl, hs0⟩
theorem SeenV.cap {R : Rd} {v : Value} {sz : Nat} {e : Shp} (h : SeenV R (.sl sz e) v) : ∃ A n cap, v = .slice A n cap ∧ n ≤ cap ∧ cap ≤ maxLen := by
  obtain ⟨h1, h2⟩ := h
  rw [cells_one h2] at h1
  rcases h1 with h1 | ⟨a, n, cap, h1, h3, h4, _⟩
  · simp only [List.cons.injEq, and_true] at h1
    exact ⟨_, _, _, h1, Nat.le_refl _, Nat.zero_le _⟩
  · simp only [List.cons.injEq, and_true] at h1
    exact ⟨_, _, _, h1, h3, h4⟩
theorem SeenV.snapsV {R : Rd} {v : Value} (h : SeenV R (.sl 10 SnShp) v) : ∃ (l : List Snap) (A : Option Addr) (cap : Nat), (∀ x ∈ l, x.Ok) ∧ v = .slice A l.length cap ∧ l.length ≤ cap ∧ SlR R 10 (.slice A l.length cap) l.length (snaps l) := by
  obtain ⟨l, hok, _, hs⟩ := h.slice Snap.cells Snap.Ok (fun _ _ => rfl) fun _ _ hx => Snap.of hx
  obtain ⟨A', n, cap', hv, hc, _⟩ := h.cap
  have hs0 := hs
  obtain ⟨_, A, cap, rfl, _⟩ := hs
  cases hv
  exact ⟨l, _, _, hok, rfl, hc, hs0⟩
theorem SeenV.ref {R : Rd} {v : Value} (h : SeenV R RfShp v) : ∃ (nm : Str) (gn sz : Int), v = .agg ⟨[.string ⟨⟨nm⟩⟩, .int .i64 gn, .int .i64 sz]⟩ := by
  obtain ⟨⟨⟨x3, e3, _⟩, ⟨n4, e4, _⟩, ⟨n5, e5, _⟩, hl⟩, ⟨cs⟩, rfl⟩ := h
  match cs, hl with
  | [v0, v1, v2], _ =>
    simp only [Value.cells, List.drop_zero, List.drop_succ_cons, List.take_succ_cons, List.take_zero, List.cons.injEq, and_true] at e3 e4 e5
    subst e3 e4 e5
    obtain ⟨⟨x3⟩⟩ := x3
    exact ⟨x3, n4, n5, rfl⟩

end Go.Proofs.YtoddabjacjkjbaaDoor
