/-
  The arguments of the laws; the law SnapshotPlays.
-/
import Derived.Test.YtbgfnofjnbpdgaaDoorSad
import Derived.Test.YtbgfnofjnbpdgaaDoorSae
namespace Go.Proofs.YtbgfnofjnbpdgaaDoor
open Go Go.RowKit
set_option linter.unusedVariables false

abbrev OpShp : Shp := .fc 0 1 (.int .i64) (.fc 1 10 SnShp (.fc 11 1 (.int .i64) (.fc 12 1 (.int .i64) (.fc 13 1 (.int .i64) (.fc 14 1 .bool (.f0 15))))))
theorem SOp.of {R : Rd} {xs : List Value} (hs : Seen R OpShp xs) : ∃ x : SOp, x.s.Ok ∧ xs = x.cells := by
  obtain ⟨⟨n0, e0, _⟩, hsn, ⟨n2, e2, _⟩, ⟨n3, e3, _⟩, ⟨n4, e4, _⟩, ⟨x5, e5⟩, hl⟩ := hs
  obtain ⟨s, hok, e1⟩ := Snap.of hsn
  match xs, hl with
  | [v0, v1, v2, v3, v4, v5, v6, v7, v8, v9, v10, v11, v12, v13, v14], _ =>
    simp only [List.drop_zero, List.drop_succ_cons, List.take_succ_cons, List.take_zero, List.cons.injEq, and_true, Snap.cells] at e0 e1 e2 e3 e4 e5
    obtain ⟨a1, a2, a3, a4, a5, a6, a7, a8, a9, a10⟩ := e1
    subst e0 e2 e3 e4 e5 a1 a2 a3 a4 a5 a6 a7 a8 a9 a10
    exact ⟨⟨n0, s, n2, n3, n4, x5⟩, hok, rfl⟩
theorem SeenV.sops {R : Rd} {v : Value} (h : SeenV R (.sl 15 OpShp) v) : ∃ (l : List SOp) (A : Option Addr) (cap : Nat), (∀ x ∈ l, x.s.Ok) ∧ v = .slice A l.length cap ∧ SOpsR R A cap l := by
  obtain ⟨l, hok, _, hs⟩ := h.slice SOp.cells (fun x => x.s.Ok) (fun _ _ => rfl) fun _ _ hx => SOp.of hx
  have hs0 := hs
  obtain ⟨_, A, cap, rfl, _⟩ := hs
  exact ⟨l, A, cap, hok, rfl, hs0⟩
theorem SeenV.cap {R : Rd} {v : Value} {sz : Nat} {e : Shp} (h : SeenV R (.sl sz e) v) : ∃ A n cap, v = .slice A n cap ∧ n ≤ cap ∧ cap ≤ maxLen := by
  obtain ⟨h1, h2⟩ := h
  rw [cells_one h2] at h1
  rcases h1 with h1 | ⟨a, n, cap, h1, h3, h4, _⟩
  · simp only [List.cons.injEq, and_true] at h1
    exact ⟨_, _, _, h1, Nat.le_refl _, Nat.zero_le _⟩
  · simp only [List.cons.injEq, and_true] at h1
    exact ⟨_, _, _, h1, h3, h4⟩
theorem SeenV.snapsV {R : Rd} {v : Value} (h : SeenV R (.sl 10 SnShp) v) : ∃ (l : List Snap) (A : Option Addr) (cap : Nat), (∀ x ∈ l, x.Ok) ∧ v = .slice A l.length cap ∧ l.length ≤ cap ∧ SlR R 10 (.slice A l.length cap) l.length (snaps l) := by
  obtain ⟨l, hok, _, hs⟩ := h.slice Snap.cells Snap.Ok (fun _ _ => rfl) fun _ _ hx => Snap.of hx
  obtain ⟨A', n, cap', hv, hc, _⟩ := h.cap
  have hs0 := hs
  obtain ⟨_, A, cap, rfl, _⟩ := hs
  cases hv
  exact ⟨l, _, _, hok, rfl, hc, hs0⟩
theorem SeenV.ref {R : Rd} {v : Value} (h : SeenV R RfShp v) : ∃ (nm : Str) (gn sz : Int), v = .agg ⟨[.string ⟨⟨nm⟩⟩, .int .i64 gn, .int .i64 sz]⟩ := by
  obtain ⟨⟨⟨x3, e3, _⟩, ⟨n4, e4, _⟩, ⟨n5, e5, _⟩, hl⟩, ⟨cs⟩, rfl⟩ := h
  match cs, hl with
  | [v0, v1, v2], _ =>
    simp only [Value.cells, List.drop_zero, List.drop_succ_cons, List.take_succ_cons, List.take_zero, List.cons.injEq, and_true] at e3 e4 e5
    subst e3 e4 e5
    obtain ⟨⟨x3⟩⟩ := x3
    exact ⟨x3, n4, n5, rfl⟩

set_option maxRecDepth 100000 in
set_option maxHeartbeats 8000000 in
theorem SnapshotPlays_law (R : Rd) (hG : ShaG R) (v0 : Value) (s0 : SeenV R (.sl 15 OpShp) v0) :
    Fn Tryd.prog 7 [v0] [] R (fun v _ => v = .bool true) := by
  obtain ⟨l, A, cap, hok, rfl, hs⟩ := s0.sops
  refine fn_of_vc mixed tabOk Tryd.func7 rfl (by kernel_rfl) (Nat.le_of_ble_eq_true rfl) ?_
  refine ⟨[], _, awake26_ok _ (hG.rh _), ?_⟩
  rintro _ _ ⟨rfl, rfl⟩
  repeat (first | (refine ⟨fun h => ?_, fun h => ?_⟩; rotate_left 1; (focus (exfalso; (first | (with_reducible (cases h; done)) | (revert h; simp; done) | (revert h; simp; omega) | (revert h; simp [*]; done)))); clear h) | (refine ⟨fun h => ?_, fun h => ?_⟩; (focus (exfalso; (first | (with_reducible (cases h; done)) | (revert h; simp; done) | (revert h; simp; omega) | (revert h; simp [*]; done)))); clear h))
  by_cases hlen : (30 : Int) < l.length
  · repeat (first | (refine ⟨fun h => ?_, fun h => ?_⟩; rotate_left 1; (focus (exfalso; (first | (with_reducible (cases h; done)) | (revert h; simp; done) | (revert h; simp; omega) | (revert h; simp [*]; done)))); clear h) | (refine ⟨fun h => ?_, fun h => ?_⟩; (focus (exfalso; (first | (with_reducible (cases h; done)) | (revert h; simp; done) | (revert h; simp; omega) | (revert h; simp [*]; done)))); clear h))
    exact ⟨_, Ent.nil _, rfl⟩
  repeat (first | (refine ⟨fun h => ?_, fun h => ?_⟩; rotate_left 1; (focus (exfalso; (first | (with_reducible (cases h; done)) | (revert h; simp; done) | (revert h; simp; omega) | (revert h; simp [*]; done)))); clear h) | (refine ⟨fun h => ?_, fun h => ?_⟩; (focus (exfalso; (first | (with_reducible (cases h; done)) | (revert h; simp; done) | (revert h; simp; omega) | (revert h; simp [*]; done)))); clear h))
  refine ⟨[], _, New_okS _, ?_⟩
  rintro _ _ ⟨g, rfl, r, st, c, hlok, hch, rfl⟩
  refine ⟨rfl, fun gm => ?_⟩
  refine ⟨[none, none, some 2, none, some 4, some 5, some 6, some 7, some 8, some 9, some 10, none, none, none, none, none, none, none, some 18, some 19, some 20, some 21, some 22, some 23, some 24, some 25, some 26, some 27, some 28, some 29, some 30, some 31, some 32, some 33, some 34, some 35, some 36, some 37, some 38, some 39, some 40, some 41, some 42, some 43, some 44, some 45, some 46, some 47, some 48, some 49, some 50, some 51, some 52, some 53, some 54, some 55, some 56, some 57], [4, 5], Nat × Nat × List WR × Nat × Option Addr × Nat, fun ⟨k, r, st, c, A, cap⟩ => k ≤ l.length ∧ LogOk st c ∧ (∀ w, chainOf st w = runC C00 (l.take k) w) ∧ grow (flatC (runC C00 (l.take k))).length A,
    fun ⟨k, r, st, c, A, cap⟩ => [.slice A (flatC (runC C00 (l.take k))).length cap, .int .i64 k], fun ⟨k, r, st, c, A, cap⟩ => [.blk g 77 [.map (some r)], logM r st c, .rows (rowsOf st), rowM A cap (runC C00 (l.take k))], fun ⟨k, _⟩ => l.length - k,
    (0, r, st, c, some ⟨gm, 0, .none⟩, 0), ⟨Nat.zero_le _, hlok, hch, .inl rfl⟩, ⟨rfl, rfl, trivial⟩, Ent.refl _, ?_⟩
  clear hlok hch
  rintro ⟨k, r, st, c, A', cap'⟩ ⟨hk, hlok, hch, hg⟩ js
  obtain ⟨hgood, hcnt⟩ : GoodC (runC C00 (l.take k)) ∧ countC (runC C00 (l.take k)) ≤ k := by
    obtain ⟨h1, h2⟩ := runC_good GoodC.empty (l.take k)
    rw [count_empty, List.length_take] at h2
    have hk : k ≤ l.length := hk
    exact ⟨h1, by show countC (runC (fun _ => []) (l.take k)) ≤ k; omega⟩
  refine ⟨fun hb => ?_, fun hb => ?_⟩
  · replace hb := of_decide_eq_true hb
    have hil : k < l.length := by omega
    clear hb
    have hget := List.getElem?_eq_getElem hil
    have hmem : l[k] ∈ l := List.getElem_mem hil
    generalize l[k] = x at hget hmem
    have hrun := runC_take (C := C00) hget
    have hgood2 := hgood.step x
    have hcnt2 := countC_step (runC C00 (l.take k)) x
    obtain ⟨a, hA, hr⟩ := slr_at (c := SOp.cells) (fun _ => rfl) (by omega) hs hget
    refine ⟨by omega, by omega, a, hA, ?_⟩
    refine ⟨x.cells, fun j u hu => .inl (rdnS (vs := x.cells) (fun j u hu => hr j u hu) j u hu), rfl, ?_⟩
    refine ⟨[0, 0, 0], _, play_ok _ (hG.rh _) ⟨r, st, c, hlok, hch, rfl⟩ hgood (by omega) x (hok x hmem), ?_⟩
    clear hlok hch
    rintro _ _ ⟨rfl, r, st, c, hlok, hch, rfl⟩
    intro g6
    refine ⟨rfl, rfl, 4, rfl, rfl, Nat.le_of_ble_eq_true rfl, ?_⟩
    refine ⟨by omega, by omega, a, hA, ?_⟩
    refine ⟨x.cells, fun j u hu => .inl (rdnS (vs := x.cells) (fun j u hu => hr j u hu) j u hu), rfl, ?_⟩
    refine ⟨[0], _, model_ok _ hg hgood (by omega) x (hok x hmem), ?_⟩
    rw [← hrun]
    rw [← hrun] at hch hgood2 hcnt2
    generalize (stepC (runC C00 (List.take k l)) x).2.1 = s2
    generalize (stepC (runC C00 (List.take k l)) x).2.2 = e2
    rintro _ _ ⟨A2, cap2, rfl, hg2, rfl⟩
    intro g9
    refine ⟨rfl, rfl, 5, rfl, rfl, Nat.le_of_ble_eq_true rfl, ?_⟩
    refine ⟨s2.cells, rdBlk 3 rfl, rfl, ?_⟩
    refine ⟨s2.cells, rdBlk 5 rfl, rfl, ?_⟩
    intro e he
    obtain rfl : e = true := he.2 rfl
    repeat (first | (refine ⟨fun h => ?_, fun h => ?_⟩; rotate_left 1; (focus (exfalso; (first | (with_reducible (cases h; done)) | (revert h; simp; done) | (revert h; simp; omega) | (revert h; simp [*]; done)))); clear h) | (refine ⟨fun h => ?_, fun h => ?_⟩; (focus (exfalso; (first | (with_reducible (cases h; done)) | (revert h; simp; done) | (revert h; simp; omega) | (revert h; simp [*]; done)))); clear h))
    refine ⟨[1], _, same26_ok _ (logR_own (R := R) (h := [.blk g 77 [.map (some r)], .rows (rowsOf st), .blk g6 34 s2.cells, rowM A2 cap2 (runC C00 (l.take (k + 1))), .blk g9 34 s2.cells]) 0 1 hlok rfl rfl) hch hgood2 (by omega) (SlR.own 3 rfl (mks_length _) hg2), ?_⟩
    rintro _ _ ⟨rfl, rfl⟩
    repeat (first | (refine ⟨fun h => ?_, fun h => ?_⟩; rotate_left 1; (focus (exfalso; (first | (with_reducible (cases h; done)) | (revert h; simp; done) | (revert h; simp; omega) | (revert h; simp [*]; done)))); clear h) | (refine ⟨fun h => ?_, fun h => ?_⟩; (focus (exfalso; (first | (with_reducible (cases h; done)) | (revert h; simp; done) | (revert h; simp; omega) | (revert h; simp [*]; done)))); clear h))
    (intro z hz; obtain rfl : z = ((k + 1 : Nat) : Int) := (by first | (rw [IntKind.wrap_i64] at hz; omega) | (rw [IntKind.wrap_u64] at hz; omega) | omega); clear hz)
    exact ⟨rfl, (k + 1, r, st, c, A2, cap2), ⟨hil, hlok, hch, hg2⟩, by show l.length - (k + 1) < l.length - k; omega, ⟨rfl, rfl, trivial⟩, Ent.pick [0, 4, 0, 1] rfl, rfl⟩
  · replace hb := of_decide_eq_false hb
    exact ⟨_, Ent.nil _, rfl⟩

end Go.Proofs.YtbgfnofjnbpdgaaDoor
