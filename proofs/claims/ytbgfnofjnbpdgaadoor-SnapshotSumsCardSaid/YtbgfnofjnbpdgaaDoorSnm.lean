/-
  Contract: Latest of a log.
-/
import Derived.Test.YtbgfnofjnbpdgaaDoorSnl
namespace Go.Proofs.YtbgfnofjnbpdgaaDoor
open Go Go.RowKit
set_option linter.unusedVariables false

theorem rev_bwd (l : List Rec) : l.reverse = (bwd l.length 0).map (rcAt l) := by
  have e : (List.range l.length).map (rcAt l) = l := by
    apply List.ext_getElem?
    intro i
    by_cases h : i < l.length
    · rw [List.getElem?_map, List.getElem?_range h]
      exact (rcAt_get h).symm
    · rw [List.getElem?_eq_none (by simpa using h), List.getElem?_eq_none (by omega)]
  unfold bwd
  rw [List.drop_zero, List.map_reverse, e]
theorem find_stop {α : Type} {p : α → Bool} {pre xs : List α} {i : α} (h : pre ++ [i] <+: xs) (hp : ∀ j ∈ pre, p j = false) (hi : p i = true) : xs.find? p = some i := by
  obtain ⟨t, rfl⟩ := h
  have e : pre.find? p = .none := List.find?_eq_none.2 fun x hx => by rw [hp x hx]; decide
  rw [List.append_assoc, List.find?_append, e]
  simp [hi]
def okB (d : Int) (x : Rec) : Bool := !x.fo && decide (x.s.d ≤ d)
theorem latest_none {C : Int → List Rec} {w d : Int} (h : ∀ i ∈ bwd (C w).length 0, okB d (rcAt (C w) i) = false) : latestC C w d = (Snap.zero, 4) := by
  unfold latestC
  have e : (C w).reverse.find? (fun x => !x.fo && decide (x.s.d ≤ d)) = .none := by
    rw [rev_bwd, List.find?_map, Option.map_eq_none_iff]
    exact List.find?_eq_none.2 fun i hi => by
      show ¬ okB d (rcAt (C w) i) = true
      rw [h i hi]; decide
  rw [e]
theorem latest_some {C : Int → List Rec} {w d : Int} {pre : List Nat} {i : Nat} (hp : pre ++ [i] <+: bwd (C w).length 0) (h : ∀ i ∈ pre, okB d (rcAt (C w) i) = false) (hi : okB d (rcAt (C w) i) = true) : latestC C w d = ((rcAt (C w) i).shown, 0) := by
  unfold latestC
  have e : (C w).reverse.find? (fun x => !x.fo && decide (x.s.d ≤ d)) = some (rcAt (C w) i) := by
    rw [rev_bwd, List.find?_map, find_stop (p := (fun x : Rec => !x.fo && decide (x.s.d ≤ d)) ∘ rcAt (C w)) hp h hi]; rfl
  rw [e]

theorem Near.snoc {h : Hp} {x : HA} (hx : x.isC = true) : Near h (h ++ [x]) := fun y hy => by
  rcases List.mem_append.1 hy with hy | hy
  · exact .inl hy
  · rw [List.mem_singleton.1 hy]; exact .inr hx

theorem Backward_ok (R : Rd) (A : Option Addr) (n cap : Nat) : Fn Tryd.prog 45 [.slice A n cap] [] R
    (fun v h => ∃ gb, v = .func (.func 76) #[] #[.pointer (some ⟨gb, 0, .none⟩)] ∧ h = [.blk gb 74 [.slice A n cap]]) := by
  refine fn_of_vc mixed tabOk Tryd.func45 rfl (by kernel_rfl) (Nat.le_of_ble_eq_true rfl) ?_
  intro gb
  exact ⟨_, Ent.refl _, gb, rfl, rfl⟩

set_option maxRecDepth 100000 in
set_option maxHeartbeats 4000000 in
theorem Latest_ok (R : Rd) {g r : Nat} {st : List WR} {c : Nat} (hL : LogR R g r st) (w d : Int) (hn : (chainOf st w).length ≤ 1000000) :
    Fn Tryd.prog 18 [.pointer (some ⟨g, 0, .none⟩), .int .i64 w, .int .i64 d] [logM r st c] R
      (fun v h => v = .tuple ⟨[.agg ⟨(latestC (chainOf st) w d).1.cells⟩, .int .i64 (latestC (chainOf st) w d).2]⟩ ∧ h = [logM r st c]) := by
  refine fnM_of_vc mixed tabOk Tryd.func18 rfl (by kernel_rfl) (Nat.le_of_ble_eq_true rfl) ?_
  intro g5 g6 g7
  refine ⟨_, .inl hL.m, ?_⟩
  refine ⟨0, rfl, like_ents _ _, ?_⟩
  rintro v b hf
  obtain ⟨A, cap, rfl, hs⟩ := hL.found hf
  refine ⟨[], _, Backward_ok _ A _ cap, ?_⟩
  rintro _ _ ⟨gb, rfl, rfl⟩
  intro w0 own0 hr0 ap0
  refine vc_rangeK (xs := bwd (chainOf st w).length 0) (enc := fun x : Nat => [Value.int .i64 (x : Int), .agg ⟨(rcAt (chainOf st w) x).cells⟩]) tabOk (gf := 76) (lb := [.pointer (some ⟨gb, 0, .none⟩)]) rfl (callable Tryd.func76 rfl (by kernel_rfl)) (fun _ => rfl)
    (fun w1 hw1 => back_seq _ (ld 4 rfl rfl) (hs.mono fun a v hv => .inl hv) hn w1 hw1) rfl rfl (fun pre => ∀ i ∈ pre, okB d (rcAt (chainOf st w) i) = false)
    (fun pre hS => ∃ pre' i, pre = pre' ++ [i] ∧ (∀ j ∈ pre', okB d (rcAt (chainOf st w) j) = false) ∧ okB d (rcAt (chainOf st w) i) = true ∧ hS = [logM r st c, .blk g6 34 (rcAt (chainOf st w) i).shown.cells, .blk g7 35 [.int .i64 0]])
    (fun i hi => by simp at hi) ?_ ?_ ?_ w0 own0 hr0 ap0
  · clear own0 hr0 ap0
    intro i g9
    refine ⟨rfl, rfl, 5, rfl, rfl, Nat.le_of_ble_eq_true rfl, ?_⟩
    refine ⟨rfl, Near.snoc (h := [_, _, _, _, _]) rfl, Ent.drop [_, _, _, _, _] [_], fun pre hinv => ?_⟩
    have hext : ∀ {bo : Bool}, okB d (rcAt (chainOf st w) i) = false → ∀ j ∈ pre ++ [i], okB d (rcAt (chainOf st w) j) = false := fun he j hj => by
      rcases List.mem_append.1 hj with hj | hj
      · exact hinv j hj
      · rw [List.mem_singleton.1 hj]; exact he
    generalize hx : rcAt (chainOf st w) i = x at *
    refine ⟨_, ld 5 rfl rfl, ?_⟩
    cases hfo : x.fo
    · repeat (first | (refine ⟨fun h => ?_, fun h => ?_⟩; rotate_left 1; (focus (exfalso; (first | (with_reducible (cases h; done)) | (revert h; simp; done) | (revert h; simp; omega) | (revert h; simp [*]; done)))); clear h) | (refine ⟨fun h => ?_, fun h => ?_⟩; (focus (exfalso; (first | (with_reducible (cases h; done)) | (revert h; simp; done) | (revert h; simp; omega) | (revert h; simp [*]; done)))); clear h))
      refine ⟨_, ld 5 rfl rfl, ?_⟩
      repeat (first | (refine ⟨fun h => ?_, fun h => ?_⟩; rotate_left 1; (focus (exfalso; (first | (with_reducible (cases h; done)) | (revert h; simp; done) | (revert h; simp; omega) | (revert h; simp [*]; done)))); clear h) | (refine ⟨fun h => ?_, fun h => ?_⟩; (focus (exfalso; (first | (with_reducible (cases h; done)) | (revert h; simp; done) | (revert h; simp; omega) | (revert h; simp [*]; done)))); clear h))
      refine ⟨_, ld 1 rfl rfl, ?_⟩
      by_cases hd : x.s.d ≤ d
      · repeat (first | (refine ⟨fun h => ?_, fun h => ?_⟩; rotate_left 1; (focus (exfalso; (first | (with_reducible (cases h; done)) | (revert h; simp; done) | (revert h; simp; omega) | (revert h; simp [*]; done)))); clear h) | (refine ⟨fun h => ?_, fun h => ?_⟩; (focus (exfalso; (first | (with_reducible (cases h; done)) | (revert h; simp; done) | (revert h; simp; omega) | (revert h; simp [*]; done)))); clear h))
        refine ⟨x.cells, rdBlk 5 rfl, rfl, ?_⟩
        refine ⟨[], _, shown_ok _ x, ?_⟩
        rintro _ _ ⟨rfl, rfl⟩
        refine ⟨rfl, rfl, 2, rfl, rfl, Nat.le_of_ble_eq_true rfl, ?_⟩
        refine ⟨rfl, rfl, 3, rfl, rfl, Nat.le_of_ble_eq_true rfl, ?_⟩
        refine ⟨[logM r st c, .blk g6 34 x.shown.cells, .blk g7 35 [.int .i64 0]], Ent.pick [0, 1, 1] rfl, ?_, pre, i, rfl, hinv, ?_, by rw [hx]⟩
        · intro y hy
          rcases List.mem_cons.1 hy with rfl | hy
          · exact .inl (by simp)
          · rcases List.mem_cons.1 hy with rfl | hy
            · exact .inr rfl
            · rw [List.mem_singleton.1 hy]; exact .inr rfl
        · rw [hx]; unfold okB; rw [hfo, decide_eq_true hd]; rfl
      · repeat (first | (refine ⟨fun h => ?_, fun h => ?_⟩; rotate_left 1; (focus (exfalso; (first | (with_reducible (cases h; done)) | (revert h; simp; done) | (revert h; simp; omega) | (revert h; simp [*]; done)))); clear h) | (refine ⟨fun h => ?_, fun h => ?_⟩; (focus (exfalso; (first | (with_reducible (cases h; done)) | (revert h; simp; done) | (revert h; simp; omega) | (revert h; simp [*]; done)))); clear h))
        exact ⟨Ent.drop [_, _, _, _, _] [_], hext (bo := true) (by unfold okB; rw [hfo, decide_eq_false hd]; rfl)⟩
    · repeat (first | (refine ⟨fun h => ?_, fun h => ?_⟩; rotate_left 1; (focus (exfalso; (first | (with_reducible (cases h; done)) | (revert h; simp; done) | (revert h; simp; omega) | (revert h; simp [*]; done)))); clear h) | (refine ⟨fun h => ?_, fun h => ?_⟩; (focus (exfalso; (first | (with_reducible (cases h; done)) | (revert h; simp; done) | (revert h; simp; omega) | (revert h; simp [*]; done)))); clear h))
      exact ⟨Ent.drop [_, _, _, _, _] [_], hext (bo := true) (by unfold okB; rw [hfo]; rfl)⟩
  · intro hi D
    clear own0 hr0 ap0
    rw [latest_none hi]
    refine ⟨rfl, rfl, 2, rfl, rfl, Nat.le_of_ble_eq_true rfl, ?_⟩
    refine ⟨rfl, rfl, 3, rfl, rfl, Nat.le_of_ble_eq_true rfl, ?_⟩
    refine ⟨5, rfl, ?_⟩
    refine ⟨Snap.zero.cells, rdBlk 2 rfl, rfl, ?_⟩
    refine ⟨_, ld 3 rfl rfl, ?_⟩
    exact ⟨_, Ent.drop [_] [_, _, _, _, _], rfl, rfl⟩
  · rintro pre hS hp ⟨pre', i, rfl, h1, h2, rfl⟩ D
    clear own0 hr0 ap0
    rw [latest_some hp h1 h2]
    refine ⟨3, rfl, ?_⟩
    refine ⟨(rcAt (chainOf st w) i).shown.cells, rdBlk 1 rfl, rfl, ?_⟩
    refine ⟨_, ld 2 rfl rfl, ?_⟩
    exact ⟨_, Ent.drop [_] [_, _, _], rfl, rfl⟩

end Go.Proofs.YtbgfnofjnbpdgaaDoor
