/-
  The laws SnapshotNext and SnapshotLatest.
-/
import Derived.Test.YtbgfnofjnbpdgaaDoorSaf
namespace Go.Proofs.YtbgfnofjnbpdgaaDoor
open Go Go.RowKit
set_option linter.unusedVariables false

theorem built_good (l : List SOp) : GoodC (runC C00 l) ∧ countC (runC C00 l) ≤ l.length := by
  obtain ⟨h1, h2⟩ := runC_good GoodC.empty l
  rw [count_empty, Nat.zero_add] at h2
  exact ⟨h1, h2⟩

set_option maxRecDepth 100000 in
set_option maxHeartbeats 8000000 in
theorem SnapshotLatest_law (R : Rd) (hG : ShaG R) (v0 v1 v2 : Value) (s0 : SeenV R (.sl 15 OpShp) v0) (s1 : SeenV R (.int .i64) v1) (s2 : SeenV R (.int .i64) v2) :
    Fn Tryd.prog 8 [v0, v1, v2] [] R (fun v _ => v = .bool true) := by
  obtain ⟨l, A, cap, hok, rfl, hs⟩ := s0.sops
  obtain ⟨w, rfl, -, -⟩ := s1.i64
  obtain ⟨d, rfl, -, -⟩ := s2.i64
  refine fn_of_vc mixed tabOk Tryd.func8 rfl (by kernel_rfl) (Nat.le_of_ble_eq_true rfl) ?_
  refine ⟨[], _, awake26_ok _ (hG.rh _), ?_⟩
  rintro _ _ ⟨rfl, rfl⟩
  repeat (first | (refine ⟨fun h => ?_, fun h => ?_⟩; rotate_left 1; (focus (exfalso; (first | (with_reducible (cases h; done)) | (revert h; simp; done) | (revert h; simp; omega) | (revert h; simp [*]; done)))); clear h) | (refine ⟨fun h => ?_, fun h => ?_⟩; (focus (exfalso; (first | (with_reducible (cases h; done)) | (revert h; simp; done) | (revert h; simp; omega) | (revert h; simp [*]; done)))); clear h))
  by_cases hlen : (30 : Int) < l.length
  · repeat (first | (refine ⟨fun h => ?_, fun h => ?_⟩; rotate_left 1; (focus (exfalso; (first | (with_reducible (cases h; done)) | (revert h; simp; done) | (revert h; simp; omega) | (revert h; simp [*]; done)))); clear h) | (refine ⟨fun h => ?_, fun h => ?_⟩; (focus (exfalso; (first | (with_reducible (cases h; done)) | (revert h; simp; done) | (revert h; simp; omega) | (revert h; simp [*]; done)))); clear h))
    exact ⟨_, Ent.nil _, rfl⟩
  repeat (first | (refine ⟨fun h => ?_, fun h => ?_⟩; rotate_left 1; (focus (exfalso; (first | (with_reducible (cases h; done)) | (revert h; simp; done) | (revert h; simp; omega) | (revert h; simp [*]; done)))); clear h) | (refine ⟨fun h => ?_, fun h => ?_⟩; (focus (exfalso; (first | (with_reducible (cases h; done)) | (revert h; simp; done) | (revert h; simp; omega) | (revert h; simp [*]; done)))); clear h))
  obtain ⟨hC, hn⟩ := built_good l
  refine ⟨[], _, built_ok _ (hG.rh _) (hs.rh _) (by omega) hok, ?_⟩
  generalize runC C00 l = C at *
  rintro _ _ ⟨g, r, st, c, A1, cap1, rfl, hlok, hch, hg1, rfl⟩
  refine ⟨[0, 0, 0], _, Latest_okL _ ⟨r, st, c, hlok, hch, rfl⟩ hC (by omega) w d, ?_⟩
  clear hlok hch
  obtain ⟨hsp1, hsp2⟩ := latest_spec hC w d
  generalize latestC C w d = y at *
  obtain ⟨s, e⟩ := y
  rintro _ _ ⟨rfl, r, st, c, hlok, hch, rfl⟩
  intro g9
  refine ⟨rfl, rfl, 4, rfl, rfl, Nat.le_of_ble_eq_true rfl, ?_⟩
  refine ⟨[2], _, Retained_ok _ (logR_own (R := R) (h := [rowM A1 cap1 C, .blk g 77 [.map (some r)], .rows (rowsOf st), .blk g9 34 s.cells]) 1 2 hlok rfl rfl) hch hC (by omega), ?_⟩
  have hrl := retC_length C
  generalize retC C = q at *
  rintro _ _ ⟨_, ⟨A2, cap2, hg2, rfl, rfl⟩, rfl⟩
  have hq : SlR (RH R [.blk g9 34 s.cells, .row A2 q.length cap2 34 10 (snaps q) (0, 0)]) 10 (.slice A2 q.length cap2) q.length (snaps q) := SlR.own 1 rfl (snaps_length _) hg2
  refine ⟨[none, none, none, none, none, none, some 6, none, none, none, none, none, some 12, some 13, none, none, none, none, none, none, none, none, none, none, none, none, none, none, none, none, none, none, none, none, none, some 35, some 36, some 37, some 38, some 39, some 40, some 41, some 42, some 43, some 44, some 45, some 46, some 47, some 48, some 49, some 50, some 51, some 52, some 53, some 54, some 55, some 56, some 57, some 58, some 59, some 60, some 61, some 62, some 63, some 64, some 65, some 66, some 67, some 68, some 69, some 70, some 71, some 72, some 73, some 74, some 75, some 76, some 77], [12, 13], Bool × Nat, fun ⟨f, k⟩ => k ≤ q.length ∧ (f = true ↔ (e = 4 ∨ ∃ j x, j < k ∧ q[j]? = some x ∧ x.w = w ∧ x.d ≤ d ∧ x = s)), fun ⟨f, k⟩ => [.bool f, .int .i64 k], fun _ => [.blk g9 34 s.cells, .row A2 q.length cap2 34 10 (snaps q) (0, 0)], fun ⟨_, k⟩ => q.length - k,
    (decide (e = 4), 0), ⟨Nat.zero_le _, ?_⟩, ⟨rfl, rfl, trivial⟩, Ent.pick [3, 4] rfl, ?_⟩
  · constructor
    · intro h; exact .inl (of_decide_eq_true h)
    · rintro (h | ⟨j, x, hj, _⟩)
      · exact decide_eq_true h
      · omega
  rintro ⟨f, k⟩ ⟨hk, hf⟩ js
  refine ⟨fun hb => ?_, fun hb => ?_⟩
  · replace hb := of_decide_eq_true hb
    have hil : k < q.length := by omega
    clear hb
    have hget := List.getElem?_eq_getElem hil
    have hmem : q[k] ∈ q := List.getElem_mem hil
    generalize q[k] = x at hget hmem
    have hspx := hsp2 x hmem
    have hskip : ¬ (x.w = w ∧ x.d ≤ d) → (f = true ↔ (e = 4 ∨ ∃ j x, j < k + 1 ∧ q[j]? = some x ∧ x.w = w ∧ x.d ≤ d ∧ x = s)) := fun hx => by
      rw [hf]
      constructor
      · rintro (h | ⟨j, y, hj, hr⟩)
        · exact .inl h
        · exact .inr ⟨j, y, by omega, hr⟩
      · rintro (h | ⟨j, y, hj, h1, h2, h3, h4⟩)
        · exact .inl h
        · by_cases hjk : j = k
          · subst hjk
            rw [hget] at h1
            cases h1
            exact absurd ⟨h2, h3⟩ hx
          · exact .inr ⟨j, y, by omega, h1, h2, h3, h4⟩
    obtain ⟨a, hA, hr⟩ := slr_at (c := Snap.cells) (fun _ => rfl) (by omega) hq hget
    refine ⟨by omega, by omega, a, hA, ?_⟩
    refine ⟨_, fldS (hr 0 _ rfl), ?_⟩
    by_cases h1 : x.w = w
    case neg =>
      repeat (first | (refine ⟨fun h => ?_, fun h => ?_⟩; rotate_left 1; (focus (exfalso; (first | (with_reducible (cases h; done)) | (revert h; simp; done) | (revert h; simp; omega) | (revert h; simp [*]; done)))); clear h) | (refine ⟨fun h => ?_, fun h => ?_⟩; (focus (exfalso; (first | (with_reducible (cases h; done)) | (revert h; simp; done) | (revert h; simp; omega) | (revert h; simp [*]; done)))); clear h))
      (intro z hz; obtain rfl : z = ((k + 1 : Nat) : Int) := (by first | (rw [IntKind.wrap_i64] at hz; omega) | (rw [IntKind.wrap_u64] at hz; omega) | omega); clear hz)
      exact ⟨rfl, (f, k + 1), ⟨hil, hskip fun h => h1 h.1⟩, by show q.length - (k + 1) < q.length - k; omega, ⟨rfl, rfl, trivial⟩, Ent.refl _, rfl⟩
    repeat (first | (refine ⟨fun h => ?_, fun h => ?_⟩; rotate_left 1; (focus (exfalso; (first | (with_reducible (cases h; done)) | (revert h; simp; done) | (revert h; simp; omega) | (revert h; simp [*]; done)))); clear h) | (refine ⟨fun h => ?_, fun h => ?_⟩; (focus (exfalso; (first | (with_reducible (cases h; done)) | (revert h; simp; done) | (revert h; simp; omega) | (revert h; simp [*]; done)))); clear h))
    refine ⟨by omega, by omega, a, hA, ?_⟩
    repeat (first | (refine ⟨fun h => ?_, fun h => ?_⟩; rotate_left 1; (focus (exfalso; (first | (with_reducible (cases h; done)) | (revert h; simp; done) | (revert h; simp; omega) | (revert h; simp [*]; done)))); clear h) | (refine ⟨fun h => ?_, fun h => ?_⟩; (focus (exfalso; (first | (with_reducible (cases h; done)) | (revert h; simp; done) | (revert h; simp; omega) | (revert h; simp [*]; done)))); clear h))
    refine ⟨_, fldS (hr 2 _ rfl), ?_⟩
    repeat (first | (refine ⟨fun h => ?_, fun h => ?_⟩; rotate_left 1; (focus (exfalso; (first | (with_reducible (cases h; done)) | (revert h; simp; done) | (revert h; simp; omega) | (revert h; simp [*]; done)))); clear h) | (refine ⟨fun h => ?_, fun h => ?_⟩; (focus (exfalso; (first | (with_reducible (cases h; done)) | (revert h; simp; done) | (revert h; simp; omega) | (revert h; simp [*]; done)))); clear h))
    by_cases h2 : x.d ≤ d
    case neg =>
      repeat (first | (refine ⟨fun h => ?_, fun h => ?_⟩; rotate_left 1; (focus (exfalso; (first | (with_reducible (cases h; done)) | (revert h; simp; done) | (revert h; simp; omega) | (revert h; simp [*]; done)))); clear h) | (refine ⟨fun h => ?_, fun h => ?_⟩; (focus (exfalso; (first | (with_reducible (cases h; done)) | (revert h; simp; done) | (revert h; simp; omega) | (revert h; simp [*]; done)))); clear h))
      (intro z hz; obtain rfl : z = ((k + 1 : Nat) : Int) := (by first | (rw [IntKind.wrap_i64] at hz; omega) | (rw [IntKind.wrap_u64] at hz; omega) | omega); clear hz)
      exact ⟨rfl, (f, k + 1), ⟨hil, hskip fun h => h2 h.2⟩, by show q.length - (k + 1) < q.length - k; omega, ⟨rfl, rfl, trivial⟩, Ent.refl _, rfl⟩
    have h4 : ¬ d < x.d := by omega
    obtain ⟨he, hxq⟩ := hspx h1 h2
    have he : e = 0 := he
    have hxq : x.q ≤ s.q := hxq
    repeat (first | (refine ⟨fun h => ?_, fun h => ?_⟩; rotate_left 1; (focus (exfalso; (first | (with_reducible (cases h; done)) | (revert h; simp; done) | (revert h; simp; omega) | (revert h; simp [*]; done)))); clear h) | (refine ⟨fun h => ?_, fun h => ?_⟩; (focus (exfalso; (first | (with_reducible (cases h; done)) | (revert h; simp; done) | (revert h; simp; omega) | (revert h; simp [*]; done)))); clear h))
    refine ⟨[0,0], lexT 0 12, by kernel_rfl, ?_⟩
    repeat (first | (refine ⟨fun h => ?_, fun h => ?_⟩; rotate_left 1; (focus (exfalso; (first | (with_reducible (cases h; done)) | (revert h; simp; done) | (revert h; simp; omega) | (revert h; simp [*]; done)))); clear h) | (refine ⟨fun h => ?_, fun h => ?_⟩; (focus (exfalso; (first | (with_reducible (cases h; done)) | (revert h; simp; done) | (revert h; simp; omega) | (revert h; simp [*]; done)))); clear h))
    refine ⟨by omega, by omega, a, hA, ?_⟩
    repeat (first | (refine ⟨fun h => ?_, fun h => ?_⟩; rotate_left 1; (focus (exfalso; (first | (with_reducible (cases h; done)) | (revert h; simp; done) | (revert h; simp; omega) | (revert h; simp [*]; done)))); clear h) | (refine ⟨fun h => ?_, fun h => ?_⟩; (focus (exfalso; (first | (with_reducible (cases h; done)) | (revert h; simp; done) | (revert h; simp; omega) | (revert h; simp [*]; done)))); clear h))
    refine ⟨_, fldS (hr 1 _ rfl), ?_⟩
    repeat (first | (refine ⟨fun h => ?_, fun h => ?_⟩; rotate_left 1; (focus (exfalso; (first | (with_reducible (cases h; done)) | (revert h; simp; done) | (revert h; simp; omega) | (revert h; simp [*]; done)))); clear h) | (refine ⟨fun h => ?_, fun h => ?_⟩; (focus (exfalso; (first | (with_reducible (cases h; done)) | (revert h; simp; done) | (revert h; simp; omega) | (revert h; simp [*]; done)))); clear h))
    refine ⟨_, ld 0 rfl rfl, ?_⟩
    repeat (first | (refine ⟨fun h => ?_, fun h => ?_⟩; rotate_left 1; (focus (exfalso; (first | (with_reducible (cases h; done)) | (revert h; simp; done) | (revert h; simp; omega) | (revert h; simp [*]; done)))); clear h) | (refine ⟨fun h => ?_, fun h => ?_⟩; (focus (exfalso; (first | (with_reducible (cases h; done)) | (revert h; simp; done) | (revert h; simp; omega) | (revert h; simp [*]; done)))); clear h))
    refine ⟨[0,0], lexT 0 10, by kernel_rfl, ?_⟩
    cases f
    · repeat (first | (refine ⟨fun h => ?_, fun h => ?_⟩; rotate_left 1; (focus (exfalso; (first | (with_reducible (cases h; done)) | (revert h; simp; done) | (revert h; simp; omega) | (revert h; simp [*]; done)))); clear h) | (refine ⟨fun h => ?_, fun h => ?_⟩; (focus (exfalso; (first | (with_reducible (cases h; done)) | (revert h; simp; done) | (revert h; simp; omega) | (revert h; simp [*]; done)))); clear h))
      refine ⟨by omega, by omega, a, hA, ?_⟩
      repeat (first | (refine ⟨fun h => ?_, fun h => ?_⟩; rotate_left 1; (focus (exfalso; (first | (with_reducible (cases h; done)) | (revert h; simp; done) | (revert h; simp; omega) | (revert h; simp [*]; done)))); clear h) | (refine ⟨fun h => ?_, fun h => ?_⟩; (focus (exfalso; (first | (with_reducible (cases h; done)) | (revert h; simp; done) | (revert h; simp; omega) | (revert h; simp [*]; done)))); clear h))
      refine ⟨x.cells, rdnS (vs := x.cells) (fun j u hu => hr j u hu), rfl, ?_⟩
      repeat (first | (refine ⟨fun h => ?_, fun h => ?_⟩; rotate_left 1; (focus (exfalso; (first | (with_reducible (cases h; done)) | (revert h; simp; done) | (revert h; simp; omega) | (revert h; simp [*]; done)))); clear h) | (refine ⟨fun h => ?_, fun h => ?_⟩; (focus (exfalso; (first | (with_reducible (cases h; done)) | (revert h; simp; done) | (revert h; simp; omega) | (revert h; simp [*]; done)))); clear h))
      refine ⟨s.cells, rdBlk 0 rfl, rfl, ?_⟩
      repeat (first | (refine ⟨fun h => ?_, fun h => ?_⟩; rotate_left 1; (focus (exfalso; (first | (with_reducible (cases h; done)) | (revert h; simp; done) | (revert h; simp; omega) | (revert h; simp [*]; done)))); clear h) | (refine ⟨fun h => ?_, fun h => ?_⟩; (focus (exfalso; (first | (with_reducible (cases h; done)) | (revert h; simp; done) | (revert h; simp; omega) | (revert h; simp [*]; done)))); clear h))
      intro b hb
      have hb2 : b = true ↔ x = s := hb.trans Snap.cells_iff
      repeat (first | (refine ⟨fun h => ?_, fun h => ?_⟩; rotate_left 1; (focus (exfalso; (first | (with_reducible (cases h; done)) | (revert h; simp; done) | (revert h; simp; omega) | (revert h; simp [*]; done)))); clear h) | (refine ⟨fun h => ?_, fun h => ?_⟩; (focus (exfalso; (first | (with_reducible (cases h; done)) | (revert h; simp; done) | (revert h; simp; omega) | (revert h; simp [*]; done)))); clear h))
      (intro z hz; obtain rfl : z = ((k + 1 : Nat) : Int) := (by first | (rw [IntKind.wrap_i64] at hz; omega) | (rw [IntKind.wrap_u64] at hz; omega) | omega); clear hz)
      refine ⟨rfl, (b, k + 1), ⟨hil, ?_⟩, by show q.length - (k + 1) < q.length - k; omega, ⟨rfl, rfl, trivial⟩, Ent.refl _, rfl⟩
      rw [hb2]
      constructor
      · intro h; exact .inr ⟨k, x, by omega, hget, h1, h2, h⟩
      · rintro (h | ⟨j, y, hj, g1, g2, g3, g4⟩)
        · omega
        · by_cases hjk : j = k
          · subst hjk
            rw [hget] at g1
            cases g1
            exact g4
          · have := hf.2 (.inr ⟨j, y, by omega, g1, g2, g3, g4⟩)
            cases this
    · repeat (first | (refine ⟨fun h => ?_, fun h => ?_⟩; rotate_left 1; (focus (exfalso; (first | (with_reducible (cases h; done)) | (revert h; simp; done) | (revert h; simp; omega) | (revert h; simp [*]; done)))); clear h) | (refine ⟨fun h => ?_, fun h => ?_⟩; (focus (exfalso; (first | (with_reducible (cases h; done)) | (revert h; simp; done) | (revert h; simp; omega) | (revert h; simp [*]; done)))); clear h))
      (intro z hz; obtain rfl : z = ((k + 1 : Nat) : Int) := (by first | (rw [IntKind.wrap_i64] at hz; omega) | (rw [IntKind.wrap_u64] at hz; omega) | omega); clear hz)
      refine ⟨rfl, (true, k + 1), ⟨hil, ?_⟩, by show q.length - (k + 1) < q.length - k; omega, ⟨rfl, rfl, trivial⟩, Ent.refl _, rfl⟩
      refine ⟨fun _ => ?_, fun _ => rfl⟩
      rcases hf.1 rfl with h | ⟨j, y, hj, hr⟩
      · exact .inl h
      · exact .inr ⟨j, y, by omega, hr⟩
  · replace hb := of_decide_eq_false hb
    obtain rfl : k = q.length := by omega
    refine ⟨_, Ent.nil _, ?_⟩
    have : f = true := by
      rw [hf]
      rcases hsp1 with h | ⟨h0, h1, h2, h3⟩
      · exact .inl h
      · obtain ⟨j, hj⟩ := List.getElem?_of_mem h1
        exact .inr ⟨j, s, (List.getElem?_eq_some_iff.1 hj).1, hj, h2, h3, rfl⟩
    rw [this]; rfl

set_option maxRecDepth 100000 in
set_option maxHeartbeats 8000000 in
theorem SnapshotNext_law (R : Rd) (hG : ShaG R) (v0 v1 v2 v3 v4 v5 : Value) (s0 : SeenV R (.sl 15 OpShp) v0) (s1 : SeenV R (.int .i64) v1) (s2 : SeenV R (.int .i64) v2) (s3 : SeenV R RfShp v3) (s4 : SeenV R (.int .i64) v4) (s5 : SeenV R (.int .i64) v5) :
    Fn Tryd.prog 3 [v0, v1, v2, v3, v4, v5] [] R (fun v _ => v = .bool true) := by
  obtain ⟨l, A, cap, hok, rfl, hs⟩ := s0.sops
  obtain ⟨w, rfl, -, -⟩ := s1.i64
  obtain ⟨d, rfl, -, -⟩ := s2.i64
  obtain ⟨nm, gn, sz, rfl⟩ := s3.ref
  obtain ⟨fl, rfl, -, -⟩ := s4.i64
  obtain ⟨bt, rfl, -, -⟩ := s5.i64
  refine fn_of_vc mixed tabOk Tryd.func3 rfl (by kernel_rfl) (Nat.le_of_ble_eq_true rfl) ?_
  intro g9
  refine ⟨[], _, awake26_ok _ (hG.rh _), ?_⟩
  rintro _ _ ⟨rfl, rfl⟩
  repeat (first | (refine ⟨fun h => ?_, fun h => ?_⟩; rotate_left 1; (focus (exfalso; (first | (with_reducible (cases h; done)) | (revert h; simp; done) | (revert h; simp; omega) | (revert h; simp [*]; done)))); clear h) | (refine ⟨fun h => ?_, fun h => ?_⟩; (focus (exfalso; (first | (with_reducible (cases h; done)) | (revert h; simp; done) | (revert h; simp; omega) | (revert h; simp [*]; done)))); clear h))
  by_cases hlen : (30 : Int) < l.length
  · repeat (first | (refine ⟨fun h => ?_, fun h => ?_⟩; rotate_left 1; (focus (exfalso; (first | (with_reducible (cases h; done)) | (revert h; simp; done) | (revert h; simp; omega) | (revert h; simp [*]; done)))); clear h) | (refine ⟨fun h => ?_, fun h => ?_⟩; (focus (exfalso; (first | (with_reducible (cases h; done)) | (revert h; simp; done) | (revert h; simp; omega) | (revert h; simp [*]; done)))); clear h))
    exact ⟨_, Ent.nil _, rfl⟩
  repeat (first | (refine ⟨fun h => ?_, fun h => ?_⟩; rotate_left 1; (focus (exfalso; (first | (with_reducible (cases h; done)) | (revert h; simp; done) | (revert h; simp; omega) | (revert h; simp [*]; done)))); clear h) | (refine ⟨fun h => ?_, fun h => ?_⟩; (focus (exfalso; (first | (with_reducible (cases h; done)) | (revert h; simp; done) | (revert h; simp; omega) | (revert h; simp [*]; done)))); clear h))
  obtain ⟨hC, hn⟩ := built_good l
  refine ⟨[], _, built_ok _ (hG.rh _) (hs.rh _) (by omega) hok, ?_⟩
  generalize runC C00 l = C at *
  have hlw := len_le_count hC.out w
  rintro _ _ ⟨g, r, st, c, A1, cap1, rfl, hlok, hch, hg1, rfl⟩
  refine ⟨[1, 1, 1], _, Of_okL _ ⟨r, st, c, hlok, hch, rfl⟩ hC (by omega) w, ?_⟩
  clear hlok hch
  rintro _ _ ⟨A2, cap2, _, hg2, rfl, ⟨r, st, c, hlok, hch, rfl⟩, rfl⟩
  refine ⟨[.string ⟨⟨nm⟩⟩, .int .i64 gn, .int .i64 sz], rdBlk 0 rfl, rfl, ?_⟩
  refine ⟨[3, 3, 3], _, Next_okL _ (hG.rh _) ⟨r, st, c, hlok, hch, rfl⟩ hC (by omega) w d nm gn sz fl bt, ?_⟩
  clear hlok hch
  have hnok := fun s => next_ok hC (by omega) w d nm gn sz fl bt (s := s)
  have hner := next_err (C := C) w d nm gn sz fl bt
  generalize nextL (lastC (C w)) w d nm gn sz fl bt = y at *
  obtain ⟨s, e⟩ := y
  rintro _ _ ⟨rfl, r, st, c, hlok, hch, rfl⟩
  intro g16
  refine ⟨rfl, rfl, 6, rfl, rfl, Nat.le_of_ble_eq_true rfl, ?_⟩
  by_cases he : e = 0
  case neg =>
    rcases hner with h0 | ⟨hz, h1⟩
    · exact absurd h0 he
    have hz : s = Snap.zero := hz
    have h1 : e = 1 ∨ e = 13 := h1
    subst hz
    repeat (first | (refine ⟨fun h => ?_, fun h => ?_⟩; rotate_left 1; (focus (exfalso; (first | (with_reducible (cases h; done)) | (revert h; simp; done) | (revert h; simp; omega) | (revert h; simp [*]; done)))); clear h) | (refine ⟨fun h => ?_, fun h => ?_⟩; (focus (exfalso; (first | (with_reducible (cases h; done)) | (revert h; simp; done) | (revert h; simp; omega) | (revert h; simp [*]; done)))); clear h))
    refine ⟨Snap.zero.cells, rdBlk 6 rfl, rfl, ?_⟩
    intro b hb
    obtain rfl : b = true := hb.2 rfl
    repeat (first | (refine ⟨fun h => ?_, fun h => ?_⟩; rotate_left 1; (focus (exfalso; (first | (with_reducible (cases h; done)) | (revert h; simp; done) | (revert h; simp; omega) | (revert h; simp [*]; done)))); clear h) | (refine ⟨fun h => ?_, fun h => ?_⟩; (focus (exfalso; (first | (with_reducible (cases h; done)) | (revert h; simp; done) | (revert h; simp; omega) | (revert h; simp [*]; done)))); clear h))
    rcases h1 with rfl | rfl
    · repeat (first | (refine ⟨fun h => ?_, fun h => ?_⟩; rotate_left 1; (focus (exfalso; (first | (with_reducible (cases h; done)) | (revert h; simp; done) | (revert h; simp; omega) | (revert h; simp [*]; done)))); clear h) | (refine ⟨fun h => ?_, fun h => ?_⟩; (focus (exfalso; (first | (with_reducible (cases h; done)) | (revert h; simp; done) | (revert h; simp; omega) | (revert h; simp [*]; done)))); clear h))
      exact ⟨_, Ent.nil _, rfl⟩
    · repeat (first | (refine ⟨fun h => ?_, fun h => ?_⟩; rotate_left 1; (focus (exfalso; (first | (with_reducible (cases h; done)) | (revert h; simp; done) | (revert h; simp; omega) | (revert h; simp [*]; done)))); clear h) | (refine ⟨fun h => ?_, fun h => ?_⟩; (focus (exfalso; (first | (with_reducible (cases h; done)) | (revert h; simp; done) | (revert h; simp; omega) | (revert h; simp [*]; done)))); clear h))
      exact ⟨_, Ent.nil _, rfl⟩
  subst he
  obtain ⟨rfl, rfl, rfl, rfl, rfl, rfl, rfl, hhd, hq, hV, hadd, hlat⟩ := hnok s rfl
  have hgood2 := hC.add s
  have hcnt2 := countC_add C s
  have hAdd := fun (R : Rd) (hG : ShaG R) {h : Hp} (hL : LogIs g C h) => Add_ok R hG hL hC (by omega) s hV.ok
  rw [hadd] at hgood2 hcnt2
  rw [hadd] at hAdd
  have hlen2 : (updC C s.w (C s.w ++ [⟨s, false, false⟩]) s.w).length = (C s.w).length + 1 := by rw [updC_same, List.length_append]; rfl
  have hver := good_verP hgood2 s.w
  generalize updC C s.w (C s.w ++ [⟨s, false, false⟩]) = C2 at *
  repeat (first | (refine ⟨fun h => ?_, fun h => ?_⟩; rotate_left 1; (focus (exfalso; (first | (with_reducible (cases h; done)) | (revert h; simp; done) | (revert h; simp; omega) | (revert h; simp [*]; done)))); clear h) | (refine ⟨fun h => ?_, fun h => ?_⟩; (focus (exfalso; (first | (with_reducible (cases h; done)) | (revert h; simp; done) | (revert h; simp; omega) | (revert h; simp [*]; done)))); clear h))
  refine ⟨_, ld 6 rfl rfl, ?_⟩
  repeat (first | (refine ⟨fun h => ?_, fun h => ?_⟩; rotate_left 1; (focus (exfalso; (first | (with_reducible (cases h; done)) | (revert h; simp; done) | (revert h; simp; omega) | (revert h; simp [*]; done)))); clear h) | (refine ⟨fun h => ?_, fun h => ?_⟩; (focus (exfalso; (first | (with_reducible (cases h; done)) | (revert h; simp; done) | (revert h; simp; omega) | (revert h; simp [*]; done)))); clear h))
  refine ⟨_, ld 6 rfl rfl, ?_⟩
  repeat (first | (refine ⟨fun h => ?_, fun h => ?_⟩; rotate_left 1; (focus (exfalso; (first | (with_reducible (cases h; done)) | (revert h; simp; done) | (revert h; simp; omega) | (revert h; simp [*]; done)))); clear h) | (refine ⟨fun h => ?_, fun h => ?_⟩; (focus (exfalso; (first | (with_reducible (cases h; done)) | (revert h; simp; done) | (revert h; simp; omega) | (revert h; simp [*]; done)))); clear h))
  refine ⟨[.string ⟨⟨s.nm⟩⟩, .int .i64 s.gn, .int .i64 s.sz], rdOff (cs := s.cells) (o := 3) (n := 3) 6 rfl rfl, rfl, ?_⟩
  repeat (first | (refine ⟨fun h => ?_, fun h => ?_⟩; rotate_left 1; (focus (exfalso; (first | (with_reducible (cases h; done)) | (revert h; simp; done) | (revert h; simp; omega) | (revert h; simp [*]; done)))); clear h) | (refine ⟨fun h => ?_, fun h => ?_⟩; (focus (exfalso; (first | (with_reducible (cases h; done)) | (revert h; simp; done) | (revert h; simp; omega) | (revert h; simp [*]; done)))); clear h))
  refine ⟨[.string ⟨⟨s.nm⟩⟩, .int .i64 s.gn, .int .i64 s.sz], rdBlk 0 rfl, rfl, ?_⟩
  repeat (first | (refine ⟨fun h => ?_, fun h => ?_⟩; rotate_left 1; (focus (exfalso; (first | (with_reducible (cases h; done)) | (revert h; simp; done) | (revert h; simp; omega) | (revert h; simp [*]; done)))); clear h) | (refine ⟨fun h => ?_, fun h => ?_⟩; (focus (exfalso; (first | (with_reducible (cases h; done)) | (revert h; simp; done) | (revert h; simp; omega) | (revert h; simp [*]; done)))); clear h))
  intro b hb
  obtain rfl : b = true := hb.2 rfl
  repeat (first | (refine ⟨fun h => ?_, fun h => ?_⟩; rotate_left 1; (focus (exfalso; (first | (with_reducible (cases h; done)) | (revert h; simp; done) | (revert h; simp; omega) | (revert h; simp [*]; done)))); clear h) | (refine ⟨fun h => ?_, fun h => ?_⟩; (focus (exfalso; (first | (with_reducible (cases h; done)) | (revert h; simp; done) | (revert h; simp; omega) | (revert h; simp [*]; done)))); clear h))
  refine ⟨_, ld 6 rfl rfl, ?_⟩
  repeat (first | (refine ⟨fun h => ?_, fun h => ?_⟩; rotate_left 1; (focus (exfalso; (first | (with_reducible (cases h; done)) | (revert h; simp; done) | (revert h; simp; omega) | (revert h; simp [*]; done)))); clear h) | (refine ⟨fun h => ?_, fun h => ?_⟩; (focus (exfalso; (first | (with_reducible (cases h; done)) | (revert h; simp; done) | (revert h; simp; omega) | (revert h; simp [*]; done)))); clear h))
  refine ⟨_, ld 6 rfl rfl, ?_⟩
  repeat (first | (refine ⟨fun h => ?_, fun h => ?_⟩; rotate_left 1; (focus (exfalso; (first | (with_reducible (cases h; done)) | (revert h; simp; done) | (revert h; simp; omega) | (revert h; simp [*]; done)))); clear h) | (refine ⟨fun h => ?_, fun h => ?_⟩; (focus (exfalso; (first | (with_reducible (cases h; done)) | (revert h; simp; done) | (revert h; simp; omega) | (revert h; simp [*]; done)))); clear h))
  refine ⟨.bool s.hd, ld 6 rfl rfl, ?_⟩
  rw [hhd]
  repeat (first | (refine ⟨fun h => ?_, fun h => ?_⟩; rotate_left 1; (focus (exfalso; (first | (with_reducible (cases h; done)) | (revert h; simp; done) | (revert h; simp; omega) | (revert h; simp [*]; done)))); clear h) | (refine ⟨fun h => ?_, fun h => ?_⟩; (focus (exfalso; (first | (with_reducible (cases h; done)) | (revert h; simp; done) | (revert h; simp; omega) | (revert h; simp [*]; done)))); clear h))
  refine ⟨_, ld 6 rfl rfl, ?_⟩
  repeat (first | (refine ⟨fun h => ?_, fun h => ?_⟩; rotate_left 1; (focus (exfalso; (first | (with_reducible (cases h; done)) | (revert h; simp; done) | (revert h; simp; omega) | (revert h; simp [*]; done)))); clear h) | (refine ⟨fun h => ?_, fun h => ?_⟩; (focus (exfalso; (first | (with_reducible (cases h; done)) | (revert h; simp; done) | (revert h; simp; omega) | (revert h; simp [*]; done)))); clear h))
  (intro z hz; obtain rfl : z = (((C s.w).length + 1 : Nat) : Int) := (by first | (rw [IntKind.wrap_i64] at hz; omega) | (rw [IntKind.wrap_u64] at hz; omega) | omega); clear hz)
  repeat (first | (refine ⟨fun h => ?_, fun h => ?_⟩; rotate_left 1; (focus (exfalso; (first | (with_reducible (cases h; done)) | (revert h; simp; done) | (revert h; simp; omega) | (revert h; simp [*]; done)))); clear h) | (refine ⟨fun h => ?_, fun h => ?_⟩; (focus (exfalso; (first | (with_reducible (cases h; done)) | (revert h; simp; done) | (revert h; simp; omega) | (revert h; simp [*]; done)))); clear h))
  refine ⟨s.cells, rdBlk 6 rfl, rfl, ?_⟩
  repeat (first | (refine ⟨fun h => ?_, fun h => ?_⟩; rotate_left 1; (focus (exfalso; (first | (with_reducible (cases h; done)) | (revert h; simp; done) | (revert h; simp; omega) | (revert h; simp [*]; done)))); clear h) | (refine ⟨fun h => ?_, fun h => ?_⟩; (focus (exfalso; (first | (with_reducible (cases h; done)) | (revert h; simp; done) | (revert h; simp; omega) | (revert h; simp [*]; done)))); clear h))
  refine ⟨[3, 3, 3], _, hAdd _ (hG.rh _) ⟨r, st, c, hlok, hch, rfl⟩, ?_⟩
  clear hlok hch
  rintro _ _ ⟨rfl, r, st, c, hlok, hch, rfl⟩
  repeat (first | (refine ⟨fun h => ?_, fun h => ?_⟩; rotate_left 1; (focus (exfalso; (first | (with_reducible (cases h; done)) | (revert h; simp; done) | (revert h; simp; omega) | (revert h; simp [*]; done)))); clear h) | (refine ⟨fun h => ?_, fun h => ?_⟩; (focus (exfalso; (first | (with_reducible (cases h; done)) | (revert h; simp; done) | (revert h; simp; omega) | (revert h; simp [*]; done)))); clear h))
  refine ⟨[4, 4, 4], _, Latest_okL _ ⟨r, st, c, hlok, hch, rfl⟩ hgood2 (by omega) s.w s.d, ?_⟩
  clear hlok hch
  rw [hlat]
  rintro _ _ ⟨rfl, r, st, c, hlok, hch, rfl⟩
  intro g18
  refine ⟨rfl, rfl, 7, rfl, rfl, Nat.le_of_ble_eq_true rfl, ?_⟩
  refine ⟨[3,6], (.q 0 (.q 1 (.q 2 (.q 3 (.q 4 (.q 5 (.q 6 (.q 7 (.q 8 (.q 9 (.q 12 (.q 13 (.one 10 (.q 11 (.q 14 (.q 15 (.q 16 (.q 17 (.q 18 (.one 19 (.one 20 (.q 21 (.q 22 (.q 23 .nil)))))))))))))))))))))))), by kernel_rfl, ?_⟩
  repeat (first | (refine ⟨fun h => ?_, fun h => ?_⟩; rotate_left 1; (focus (exfalso; (first | (with_reducible (cases h; done)) | (revert h; simp; done) | (revert h; simp; omega) | (revert h; simp [*]; done)))); clear h) | (refine ⟨fun h => ?_, fun h => ?_⟩; (focus (exfalso; (first | (with_reducible (cases h; done)) | (revert h; simp; done) | (revert h; simp; omega) | (revert h; simp [*]; done)))); clear h))
  refine ⟨s.cells, rdBlk 1 rfl, rfl, ?_⟩
  repeat (first | (refine ⟨fun h => ?_, fun h => ?_⟩; rotate_left 1; (focus (exfalso; (first | (with_reducible (cases h; done)) | (revert h; simp; done) | (revert h; simp; omega) | (revert h; simp [*]; done)))); clear h) | (refine ⟨fun h => ?_, fun h => ?_⟩; (focus (exfalso; (first | (with_reducible (cases h; done)) | (revert h; simp; done) | (revert h; simp; omega) | (revert h; simp [*]; done)))); clear h))
  refine ⟨s.cells, rdBlk 0 rfl, rfl, ?_⟩
  repeat (first | (refine ⟨fun h => ?_, fun h => ?_⟩; rotate_left 1; (focus (exfalso; (first | (with_reducible (cases h; done)) | (revert h; simp; done) | (revert h; simp; omega) | (revert h; simp [*]; done)))); clear h) | (refine ⟨fun h => ?_, fun h => ?_⟩; (focus (exfalso; (first | (with_reducible (cases h; done)) | (revert h; simp; done) | (revert h; simp; omega) | (revert h; simp [*]; done)))); clear h))
  intro b hb
  obtain rfl : b = true := hb.2 rfl
  repeat (first | (refine ⟨fun h => ?_, fun h => ?_⟩; rotate_left 1; (focus (exfalso; (first | (with_reducible (cases h; done)) | (revert h; simp; done) | (revert h; simp; omega) | (revert h; simp [*]; done)))); clear h) | (refine ⟨fun h => ?_, fun h => ?_⟩; (focus (exfalso; (first | (with_reducible (cases h; done)) | (revert h; simp; done) | (revert h; simp; omega) | (revert h; simp [*]; done)))); clear h))
  refine ⟨_, ld 0 rfl rfl, ?_⟩
  repeat (first | (refine ⟨fun h => ?_, fun h => ?_⟩; rotate_left 1; (focus (exfalso; (first | (with_reducible (cases h; done)) | (revert h; simp; done) | (revert h; simp; omega) | (revert h; simp [*]; done)))); clear h) | (refine ⟨fun h => ?_, fun h => ?_⟩; (focus (exfalso; (first | (with_reducible (cases h; done)) | (revert h; simp; done) | (revert h; simp; omega) | (revert h; simp [*]; done)))); clear h))
  refine ⟨[3, 3, 3], _, Of_okL _ ⟨r, st, c, hlok, hch, rfl⟩ hgood2 (by omega) s.w, ?_⟩
  clear hlok hch
  rw [hlen2]
  rintro _ _ ⟨A3, cap3, _, hg3, rfl, ⟨r, st, c, hlok, hch, rfl⟩, rfl⟩
  repeat (first | (refine ⟨fun h => ?_, fun h => ?_⟩; rotate_left 1; (focus (exfalso; (first | (with_reducible (cases h; done)) | (revert h; simp; done) | (revert h; simp; omega) | (revert h; simp [*]; done)))); clear h) | (refine ⟨fun h => ?_, fun h => ?_⟩; (focus (exfalso; (first | (with_reducible (cases h; done)) | (revert h; simp; done) | (revert h; simp; omega) | (revert h; simp [*]; done)))); clear h))
  refine ⟨[4, 4, 4], _, Of_okL _ ⟨r, st, c, hlok, hch, rfl⟩ hgood2 (by omega) s.w, ?_⟩
  clear hlok hch
  rintro _ _ ⟨A4, cap4, _, hg4, rfl, ⟨r, st, c, hlok, hch, rfl⟩, rfl⟩
  repeat (first | (refine ⟨fun h => ?_, fun h => ?_⟩; rotate_left 1; (focus (exfalso; (first | (with_reducible (cases h; done)) | (revert h; simp; done) | (revert h; simp; omega) | (revert h; simp [*]; done)))); clear h) | (refine ⟨fun h => ?_, fun h => ?_⟩; (focus (exfalso; (first | (with_reducible (cases h; done)) | (revert h; simp; done) | (revert h; simp; omega) | (revert h; simp [*]; done)))); clear h))
  have hml : (C2 s.w).length = ((C2 s.w).map Rec.shown).length := (List.length_map _).symm
  have hn2 : (C2 s.w).length ≤ 1000000 := by omega
  rw [hml] at hg4 hn2 ⊢
  refine ⟨[], _, Verify_ok _ ((hG.rh _).rh _) (l := (C2 s.w).map Rec.shown) (SlR.own 4 rfl (snaps_length _) hg4) hn2, ?_⟩
  rw [hver]
  rintro _ _ ⟨rfl, rfl⟩
  repeat (first | (refine ⟨fun h => ?_, fun h => ?_⟩; rotate_left 1; (focus (exfalso; (first | (with_reducible (cases h; done)) | (revert h; simp; done) | (revert h; simp; omega) | (revert h; simp [*]; done)))); clear h) | (refine ⟨fun h => ?_, fun h => ?_⟩; (focus (exfalso; (first | (with_reducible (cases h; done)) | (revert h; simp; done) | (revert h; simp; omega) | (revert h; simp [*]; done)))); clear h))
  exact ⟨_, Ent.nil _, rfl⟩

end Go.Proofs.YtbgfnofjnbpdgaaDoor
