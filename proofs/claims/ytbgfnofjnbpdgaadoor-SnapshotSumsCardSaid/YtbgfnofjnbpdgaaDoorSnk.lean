/-
  Contracts: Of of a log.
-/
import Derived.Test.YtbgfnofjnbpdgaaDoorSnj
namespace Go.Proofs.YtbgfnofjnbpdgaaDoor
open Go Go.RowKit
set_option linter.unusedVariables false

def snaps (l : List Snap) : List Value := l.flatMap Snap.cells
theorem snaps_snoc (l : List Snap) (x : Snap) : snaps (l ++ [x]) = snaps l ++ x.cells := by simp [snaps]
theorem snaps_length (l : List Snap) : (snaps l).length = l.length * 10 := flat_len fun _ _ => rfl

set_option maxHeartbeats 1000000 in
theorem Of_ok (R : Rd) {g r : Nat} {st : List WR} {c : Nat} (hL : LogR R g r st) (w : Int) (hn : (chainOf st w).length ≤ 1000000) :
    Fn Tryd.prog 15 [.pointer (some ⟨g, 0, .none⟩), .int .i64 w] [logM r st c] R
      (fun v h => ∃ A cap, grow (chainOf st w).length A ∧ v = .slice A (chainOf st w).length cap ∧ h = [logM r st c, .row A (chainOf st w).length cap 34 10 (snaps ((chainOf st w).map Rec.shown)) (0, 0)]) := by
  have hML := maxLen_eq
  refine fn_of_vc mixed tabOk Tryd.func15 rfl (by kernel_rfl) (Nat.le_of_ble_eq_true rfl) ?_
  refine ⟨_, .inl hL.m, ?_⟩
  refine ⟨0, rfl, like_ents _ _, ?_⟩
  rintro v b hf
  obtain ⟨B, capB, rfl, hs⟩ := hL.found hf
  generalize hch : chainOf st w = l at *
  refine ⟨[none, none, none, none, none, some 5, none, some 7, none, none, none, none, none, none, none, some 15, some 16, some 17, some 18, some 19, some 20, some 21, some 22, some 23, some 24], [5, 15], Option Addr × Nat × Nat, fun ⟨A, cap, k⟩ => k ≤ l.length ∧ grow k A, fun ⟨A, cap, k⟩ => [.slice A k cap, .int .i64 k],
    fun ⟨A, cap, k⟩ => [logM r st c, .row A k cap 34 10 (snaps ((l.take k).map Rec.shown)) (0, 0)], fun ⟨_, _, k⟩ => l.length - k, (.none, 0, 0), ⟨Nat.zero_le _, .inl rfl⟩, ⟨rfl, rfl, trivial⟩, Ent.nilrow [_] _ _, ?_⟩
  rintro ⟨A, cap, k⟩ ⟨hk, hg⟩ js
  refine ⟨fun hb => ?_, fun hb => ?_⟩
  · replace hb := of_decide_eq_true hb
    have hil : k < l.length := by omega
    clear hb
    have hget := List.getElem?_eq_getElem hil
    have htake := List.take_add_one (l := l) (i := k)
    rw [hget] at htake
    generalize l[k] = x at hget htake
    obtain ⟨a, rfl, hr⟩ := slr_at (c := Rec.cells) (fun _ => rfl) (by omega) hs hget
    refine ⟨by omega, by omega, a, rfl, ?_⟩
    refine ⟨x.cells, fun j u hu => .inl (rdnS (vs := x.cells) (fun j u hu => hr j u hu) j u hu), rfl, ?_⟩
    intro g7
    refine ⟨rfl, rfl, 2, rfl, rfl, Nat.le_of_ble_eq_true rfl, ?_⟩
    refine ⟨x.cells, rdBlk 2 rfl, rfl, ?_⟩
    refine ⟨[], _, shown_ok _ x, ?_⟩
    rintro _ _ ⟨rfl, rfl⟩
    refine ⟨rfl, fun g8 => ?_⟩
    refine ⟨x.shown.cells, rfl, rdRow 3 rfl, rfl, by show (_ + _) * 96 ≤ _; omega, by omega, .inr ⟨1, rfl, rfl, rfl, rfl, rfl, rfl, fun A' cap' hg' => ?_⟩⟩
    (intro z hz; obtain rfl : z = ((k + 1 : Nat) : Int) := (by first | (rw [IntKind.wrap_i64] at hz; omega) | (rw [IntKind.wrap_u64] at hz; omega) | omega); clear hz)
    refine ⟨rfl, (A', cap', k + 1), ⟨hil, hg'⟩, by show l.length - (k + 1) < l.length - k; omega, ⟨rfl, rfl, trivial⟩, ?_, rfl⟩
    have e : snaps ((l.take (k + 1)).map Rec.shown) = snaps ((l.take k).map Rec.shown) ++ x.shown.cells := by
      rw [htake, ← snaps_snoc, List.map_append]; rfl
    show Ent _ [logM r st c, .row A' (k + 1) cap' _ 10 (snaps ((l.take (k + 1)).map Rec.shown)) _]
    rw [e]
    exact Ent.drop [_, _] [_, _]
  · replace hb := of_decide_eq_false hb
    obtain rfl : k = l.length := by omega
    refine ⟨_, Ent.refl _, A, cap, hg, rfl, ?_⟩
    show [logM r st c, HA.row A l.length cap _ 10 (snaps ((l.take l.length).map Rec.shown)) _] = _
    rw [List.take_length]

end Go.Proofs.YtbgfnofjnbpdgaaDoor
