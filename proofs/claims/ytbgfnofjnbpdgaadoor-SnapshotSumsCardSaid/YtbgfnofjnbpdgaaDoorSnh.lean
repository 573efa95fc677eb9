/-
  Contracts: Add of a log of snapshots.
-/
import Derived.Test.YtbgfnofjnbpdgaaDoorSng
namespace Go.Proofs.YtbgfnofjnbpdgaaDoor
open Go Go.RowKit
set_option linter.unusedVariables false

/-- Parts of the memory, in whatever order. -/
theorem Ent.pick (is : List Nat) {h hs : Hp} (hp : pickK is h fun a _ => a = hs) : Ent h hs := by
  obtain ⟨a, rest, perm, e⟩ := pickK_sound _ _ _ hp
  subst e
  exact (Ent.perm perm).trans (Ent.drop a rest)

/-- The error of an addition to a writer's records, 'n' records being there in all. -/
def addE (l : List Rec) (n : Nat) (s : Snap) : Int :=
  if validB s = true then
    (if s.q ≤ l.length then
      (match l[(s.q - 1).toNat]? with
      | some x => if x.s = s.bare then 5 else 13
      | .none => 13)
    else if (l.length : Int) + 1 < s.q then 6
    else if contB s (lastC l) = true then (if 4096 ≤ n then 7 else 0)
    else 13)
  else 1

theorem cont_last (s : Snap) (l : List Rec) : contB s (if (lastC l).isSome = true then some (lastV l) else .none) = contB s (lastC l) := by
  unfold lastV
  cases lastC l <;> rfl

set_option maxRecDepth 100000 in
set_option maxHeartbeats 4000000 in
theorem Add_old (R : Rd) (hG : ShaG R) {g r : Nat} {a b : List WR} {x : WR} {c : Nat} (s : Snap) (hok : LogOk (a ++ x :: b) c) (hx : x.w = s.w) (ha : ∀ y ∈ a, y.w ≠ s.w) (hn : x.l.length ≤ 1000000) (htot : totalW (a ++ x :: b) ≤ 1000000) (hs : s.Ok) (hV : ∀ p, lastC x.l = some p → Valid p) :
    Fn Tryd.prog 17 [.pointer (some ⟨g, 0, .none⟩), .agg ⟨s.cells⟩] (logS g r a x b c) R (fun v h => v = .int .i64 (addE x.l (totalW (a ++ x :: b)) s) ∧
      ((addE x.l (totalW (a ++ x :: b)) s ≠ 0 ∧ h = logS g r a x b c) ∨ (addE x.l (totalW (a ++ x :: b)) s = 0 ∧ ∃ A cap, grow (x.l ++ [(⟨s.bare, false, s.hd⟩ : Rec)]).length A ∧ h = logS g r a { x with A := A, cap := cap, l := x.l ++ [(⟨s.bare, false, s.hd⟩ : Rec)] } b c))) := by
  have hML := maxLen_eq
  have hch : chainOf (a ++ x :: b) s.w = x.l := chainOf_mid hx ha
  have hq1 := hs.q1
  have hq2 := hs.q2
  refine fn_of_vc mixed tabOk Tryd.func17 rfl (by kernel_rfl) (Nat.le_of_ble_eq_true rfl) ?_
  intro gb
  refine ⟨s.cells, rdBlk 4 rfl, rfl, ?_⟩
  refine ⟨[], _, valid_ok _ s, ?_⟩
  rintro _ _ ⟨rfl, rfl⟩
  cases hv : validB s
  · have e : addE x.l (totalW (a ++ x :: b)) s = 1 := by unfold addE; rw [hv]; rfl
    repeat (first | (refine ⟨fun h => ?_, fun h => ?_⟩; rotate_left 1; (focus (exfalso; (first | (with_reducible (cases h; done)) | (revert h; simp; done) | (revert h; simp; omega) | (revert h; simp [*]; done)))); clear h) | (refine ⟨fun h => ?_, fun h => ?_⟩; (focus (exfalso; (first | (with_reducible (cases h; done)) | (revert h; simp; done) | (revert h; simp; omega) | (revert h; simp [*]; done)))); clear h))
    exact ⟨_, Ent.drop (logS g r a x b c) [_], by rw [e]; rfl, .inl ⟨by rw [e]; decide, rfl⟩⟩
  have hva := (validB_iff.1 hv).q
  repeat (first | (refine ⟨fun h => ?_, fun h => ?_⟩; rotate_left 1; (focus (exfalso; (first | (with_reducible (cases h; done)) | (revert h; simp; done) | (revert h; simp; omega) | (revert h; simp [*]; done)))); clear h) | (refine ⟨fun h => ?_, fun h => ?_⟩; (focus (exfalso; (first | (with_reducible (cases h; done)) | (revert h; simp; done) | (revert h; simp; omega) | (revert h; simp [*]; done)))); clear h))
  refine ⟨[0,3], (.q 0 (.q 1 (.q 2 (.q 3 (.q 4 (.q 5 (.one 6 (.q 7 .nil)))))))), by kernel_rfl, ?_⟩
  refine ⟨_, ld 0 rfl rfl, ?_⟩
  refine ⟨_, ld 1 rfl rfl, ?_⟩
  refine ⟨0, rfl, like_ents _ _, ?_⟩
  rintro v f hf
  obtain rfl := found_mid hx ha hf
  clear hf
  refine ⟨_, ld 1 rfl rfl, ?_⟩
  by_cases h1 : s.q ≤ (x.l.length : Int)
  · obtain ⟨i, hi⟩ : ∃ i : Nat, s.q = (i : Int) + 1 := ⟨(s.q - 1).toNat, by omega⟩
    have hil : i < x.l.length := by omega
    have hget := List.getElem?_eq_getElem hil
    generalize x.l[i] = y at hget
    obtain ⟨qa, hA⟩ := growA (hok.gr x (by simp)) (by omega)
    have hin : (s.q - 1).toNat = i := by omega
    have e0 : addE x.l (totalW (a ++ x :: b)) s = if y.s = s.bare then 5 else 13 := by
      unfold addE; rw [if_pos hv, if_pos h1, hin, hget]
    repeat (first | (refine ⟨fun h => ?_, fun h => ?_⟩; rotate_left 1; (focus (exfalso; (first | (with_reducible (cases h; done)) | (revert h; simp; done) | (revert h; simp; omega) | (revert h; simp [*]; done)))); clear h) | (refine ⟨fun h => ?_, fun h => ?_⟩; (focus (exfalso; (first | (with_reducible (cases h; done)) | (revert h; simp; done) | (revert h; simp; omega) | (revert h; simp [*]; done)))); clear h))
    refine ⟨[1,2], (.q 0 (.q 1 (.q 2 (.q 3 (.q 4 (.q 5 (.q 6 (.q 7 (.one 8 (.q 9 .nil)))))))))), by kernel_rfl, ?_⟩
    refine ⟨_, ld 0 rfl rfl, ?_⟩
    (intro z hz; obtain rfl : z = ((i : Nat) : Int) := (by first | (rw [IntKind.wrap_i64] at hz; omega) | (rw [IntKind.wrap_u64] at hz; omega) | omega); clear hz)
    refine ⟨by omega, by omega, _, hA, ?_⟩
    refine ⟨y.s.cells, fun j u hu => rdnS (vs := y.s.cells) (fun j u hu => rec_own (R := R) (h := [.blk gb 34 s.cells, x.row.ha]) 1 hA rfl hget j u (y.pre hu)) j u hu, rfl, ?_⟩
    refine ⟨s.cells, rdBlk 0 rfl, rfl, ?_⟩
    refine ⟨[], _, bare_ok _ s, ?_⟩
    rintro _ _ ⟨rfl, rfl⟩
    intro e he
    have he2 : e = true ↔ y.s = s.bare := he.trans Snap.cells_iff
    cases e
    · have e1 : addE x.l (totalW (a ++ x :: b)) s = 13 := by rw [e0, if_neg (fun h => by have := he2.2 h; cases this)]
      repeat (first | (refine ⟨fun h => ?_, fun h => ?_⟩; rotate_left 1; (focus (exfalso; (first | (with_reducible (cases h; done)) | (revert h; simp; done) | (revert h; simp; omega) | (revert h; simp [*]; done)))); clear h) | (refine ⟨fun h => ?_, fun h => ?_⟩; (focus (exfalso; (first | (with_reducible (cases h; done)) | (revert h; simp; done) | (revert h; simp; omega) | (revert h; simp [*]; done)))); clear h))
      exact ⟨logS g r a x b c, Ent.pick [2, 2, 1, 1] rfl, by rw [e1]; rfl, .inl ⟨by rw [e1]; decide, rfl⟩⟩
    · have e1 : addE x.l (totalW (a ++ x :: b)) s = 5 := by rw [e0, if_pos (he2.1 rfl)]
      repeat (first | (refine ⟨fun h => ?_, fun h => ?_⟩; rotate_left 1; (focus (exfalso; (first | (with_reducible (cases h; done)) | (revert h; simp; done) | (revert h; simp; omega) | (revert h; simp [*]; done)))); clear h) | (refine ⟨fun h => ?_, fun h => ?_⟩; (focus (exfalso; (first | (with_reducible (cases h; done)) | (revert h; simp; done) | (revert h; simp; omega) | (revert h; simp [*]; done)))); clear h))
      exact ⟨logS g r a x b c, Ent.pick [2, 2, 1, 1] rfl, by rw [e1]; rfl, .inl ⟨by rw [e1]; decide, rfl⟩⟩
  repeat (first | (refine ⟨fun h => ?_, fun h => ?_⟩; rotate_left 1; (focus (exfalso; (first | (with_reducible (cases h; done)) | (revert h; simp; done) | (revert h; simp; omega) | (revert h; simp [*]; done)))); clear h) | (refine ⟨fun h => ?_, fun h => ?_⟩; (focus (exfalso; (first | (with_reducible (cases h; done)) | (revert h; simp; done) | (revert h; simp; omega) | (revert h; simp [*]; done)))); clear h))
  refine ⟨_, ld 1 rfl rfl, ?_⟩
  (intro z hz; obtain rfl : z = ((x.l.length + 1 : Nat) : Int) := (by first | (rw [IntKind.wrap_i64] at hz; omega) | (rw [IntKind.wrap_u64] at hz; omega) | omega); clear hz)
  by_cases h2 : (x.l.length : Int) + 1 < s.q
  · have e1 : addE x.l (totalW (a ++ x :: b)) s = 6 := by unfold addE; rw [if_pos hv, if_neg h1, if_pos h2]
    repeat (first | (refine ⟨fun h => ?_, fun h => ?_⟩; rotate_left 1; (focus (exfalso; (first | (with_reducible (cases h; done)) | (revert h; simp; done) | (revert h; simp; omega) | (revert h; simp [*]; done)))); clear h) | (refine ⟨fun h => ?_, fun h => ?_⟩; (focus (exfalso; (first | (with_reducible (cases h; done)) | (revert h; simp; done) | (revert h; simp; omega) | (revert h; simp [*]; done)))); clear h))
    exact ⟨logS g r a x b c, Ent.pick [0, 1, 1, 1] rfl, by rw [e1]; rfl, .inl ⟨by rw [e1]; decide, rfl⟩⟩
  have e0 : addE x.l (totalW (a ++ x :: b)) s = if contB s (lastC x.l) = true then (if 4096 ≤ totalW (a ++ x :: b) then 7 else 0) else 13 := by
    unfold addE; rw [if_pos hv, if_neg h1, if_neg h2]
  repeat (first | (refine ⟨fun h => ?_, fun h => ?_⟩; rotate_left 1; (focus (exfalso; (first | (with_reducible (cases h; done)) | (revert h; simp; done) | (revert h; simp; omega) | (revert h; simp [*]; done)))); clear h) | (refine ⟨fun h => ?_, fun h => ?_⟩; (focus (exfalso; (first | (with_reducible (cases h; done)) | (revert h; simp; done) | (revert h; simp; omega) | (revert h; simp [*]; done)))); clear h))
  refine ⟨_, ld 1 rfl rfl, ?_⟩
  refine ⟨[2], _, last_ok _ (logR_split (R := R) (h := [.blk g 77 [.map (some r)], .blk gb 34 s.cells, x.row.ha, .rows (rowsOf (a ++ b))]) 0 2 3 hok rfl rfl rfl) s.w (by rw [hch]; exact hn), ?_⟩
  rintro _ _ ⟨rfl, rfl⟩
  rw [hch]
  intro g6
  refine ⟨rfl, rfl, 5, rfl, rfl, Nat.le_of_ble_eq_true rfl, ?_⟩
  refine ⟨s.cells, rdBlk 1 rfl, rfl, ?_⟩
  refine ⟨(lastV x.l).cells, rdBlk 5 rfl, rfl, ?_⟩
  have hlq : (lastV x.l).q ≤ 9223372036854775806 ∧ -9223372036854775808 ≤ (lastV x.l).q ∧ ((lastC x.l).isSome = true → Valid (lastV x.l)) := by
    unfold lastV
    cases hl : lastC x.l with
    | none => exact ⟨by show (0 : Int) ≤ _; omega, by show _ ≤ (0 : Int); omega, fun h => by cases h⟩
    | some p => have := (hV p hl).q; exact ⟨by show p.q ≤ _; omega, by show _ ≤ p.q; omega, fun _ => hV p hl⟩
  refine ⟨[], _, continues_ok _ (hG.rh _) s (lastV x.l) hlq.1 hlq.2.1 _ hlq.2.2, ?_⟩
  rintro _ _ ⟨rfl, rfl⟩
  rw [cont_last]
  cases hc : contB s (lastC x.l)
  · have e1 : addE x.l (totalW (a ++ x :: b)) s = 13 := by rw [e0, hc]; rfl
    repeat (first | (refine ⟨fun h => ?_, fun h => ?_⟩; rotate_left 1; (focus (exfalso; (first | (with_reducible (cases h; done)) | (revert h; simp; done) | (revert h; simp; omega) | (revert h; simp [*]; done)))); clear h) | (refine ⟨fun h => ?_, fun h => ?_⟩; (focus (exfalso; (first | (with_reducible (cases h; done)) | (revert h; simp; done) | (revert h; simp; omega) | (revert h; simp [*]; done)))); clear h))
    exact ⟨logS g r a x b c, Ent.pick [0, 3, 1, 1] rfl, by rw [e1]; rfl, .inl ⟨by rw [e1]; decide, rfl⟩⟩
  rw [if_pos hc] at e0
  repeat (first | (refine ⟨fun h => ?_, fun h => ?_⟩; rotate_left 1; (focus (exfalso; (first | (with_reducible (cases h; done)) | (revert h; simp; done) | (revert h; simp; omega) | (revert h; simp [*]; done)))); clear h) | (refine ⟨fun h => ?_, fun h => ?_⟩; (focus (exfalso; (first | (with_reducible (cases h; done)) | (revert h; simp; done) | (revert h; simp; omega) | (revert h; simp [*]; done)))); clear h))
  refine ⟨[4], _, count_ok _ hok (logR_split (R := R) (h := [.blk g 77 [.map (some r)], .blk gb 34 s.cells, x.row.ha, .rows (rowsOf (a ++ b)), .blk g6 34 (lastV x.l).cells]) 0 2 3 hok rfl rfl rfl) htot, ?_⟩
  rintro _ _ ⟨rfl, rfl⟩
  by_cases h3 : (4096 : Int) ≤ totalW (a ++ x :: b)
  · have e1 : addE x.l (totalW (a ++ x :: b)) s = 7 := by rw [e0, if_pos (by omega)]
    generalize totalW (a ++ x :: b) = n at *
    repeat (first | (refine ⟨fun h => ?_, fun h => ?_⟩; rotate_left 1; (focus (exfalso; (first | (with_reducible (cases h; done)) | (revert h; simp; done) | (revert h; simp; omega) | (revert h; simp [*]; done)))); clear h) | (refine ⟨fun h => ?_, fun h => ?_⟩; (focus (exfalso; (first | (with_reducible (cases h; done)) | (revert h; simp; done) | (revert h; simp; omega) | (revert h; simp [*]; done)))); clear h))
    exact ⟨logS g r a x b c, Ent.pick [0, 4, 1, 1] rfl, by rw [e1]; rfl, .inl ⟨by rw [e1]; decide, rfl⟩⟩
  have e1 : addE x.l (totalW (a ++ x :: b)) s = 0 := by rw [e0, if_neg (by omega)]
  rw [e1]
  generalize totalW (a ++ x :: b) = n at *
  repeat (first | (refine ⟨fun h => ?_, fun h => ?_⟩; rotate_left 1; (focus (exfalso; (first | (with_reducible (cases h; done)) | (revert h; simp; done) | (revert h; simp; omega) | (revert h; simp [*]; done)))); clear h) | (refine ⟨fun h => ?_, fun h => ?_⟩; (focus (exfalso; (first | (with_reducible (cases h; done)) | (revert h; simp; done) | (revert h; simp; omega) | (revert h; simp [*]; done)))); clear h))
  refine ⟨[0,0], (.q 0 (.q 1 (.q 2 (.q 3 (.q 4 (.q 5 (.q 6 (.q 7 (.q 9 (.q 10 (.one 8 (.q 11 (.one 12 (.one 13 (.fin 14))))))))))))))), by kernel_rfl, ?_⟩
  refine ⟨_, ld 0 rfl rfl, ?_⟩
  refine ⟨_, ld 1 rfl rfl, ?_⟩
  refine ⟨s.cells, rdBlk 1 rfl, rfl, ?_⟩
  refine ⟨_, ld 1 rfl rfl, ?_⟩
  refine ⟨[], _, bare_ok _ s, ?_⟩
  rintro _ _ ⟨rfl, rfl⟩
  refine ⟨rfl, fun g7 => ?_⟩
  refine ⟨(⟨s.bare, false, s.hd⟩ : Rec).cells, rfl, rdRow 4 rfl, rfl, by show (_ + _) * 104 ≤ _; omega, by omega, .inr ⟨0, rfl, rfl, rfl, rfl, rfl, rfl, fun A' cap' hg' => ?_⟩⟩
  refine ⟨5, rfl, like_ents _ _, ?_⟩
  rintro es' c' hu
  obtain ⟨rfl, hcc⟩ := upd_mid (l := x.l ++ [⟨s.bare, false, s.hd⟩]) hx ha (by rw [List.length_append]; rfl) hu
  replace hcc := hcc.symm
  subst hcc
  have hrow : ({ x with A := A', cap := cap', l := x.l ++ [⟨s.bare, false, s.hd⟩] } : WR).row.ha = .row A' (x.l.length + 1) cap' 79 12 (recs x.l ++ (⟨s.bare, false, s.hd⟩ : Rec).cells) (0, 0) := by
    show HA.row A' (x.l ++ [_]).length cap' _ 12 (recs (x.l ++ [_])) _ = _
    rw [recs_snoc, List.length_append]; rfl
  refine ⟨logS g r a { x with A := A', cap := cap', l := x.l ++ [⟨s.bare, false, s.hd⟩] } b c, ?_, rfl, .inr ⟨rfl, A', cap', by rw [List.length_append]; exact hg', rfl⟩⟩
  unfold logS
  rw [hrow]
  exact Ent.pick [0, 4, 1, 1] rfl


set_option maxRecDepth 100000 in
set_option maxHeartbeats 4000000 in
theorem Add_new (R : Rd) (hG : ShaG R) {g r : Nat} {st : List WR} {c : Nat} (s : Snap) (hok : LogOk st c) (hx : ∀ y ∈ st, y.w ≠ s.w) (htot : totalW st ≤ 1000000) (hs : s.Ok) :
    Fn Tryd.prog 17 [.pointer (some ⟨g, 0, .none⟩), .agg ⟨s.cells⟩] (logH g r st c) R (fun v h => v = .int .i64 (addE [] (totalW st) s) ∧
      ((addE [] (totalW st) s ≠ 0 ∧ h = logH g r st c) ∨ (addE [] (totalW st) s = 0 ∧ ∃ A cap, grow [(⟨s.bare, false, s.hd⟩ : Rec)].length A ∧ h = logH g r (st ++ [⟨s.w, A, cap, c, [(⟨s.bare, false, s.hd⟩ : Rec)]⟩]) (c + 1)))) := by
  have hML := maxLen_eq
  have hch : chainOf st s.w = [] := chainOf_none hx
  have hq1 := hs.q1
  have hq2 := hs.q2
  refine fn_of_vc mixed tabOk Tryd.func17 rfl (by kernel_rfl) (Nat.le_of_ble_eq_true rfl) ?_
  intro gb
  refine ⟨s.cells, rdBlk 3 rfl, rfl, ?_⟩
  refine ⟨[], _, valid_ok _ s, ?_⟩
  rintro _ _ ⟨rfl, rfl⟩
  cases hv : validB s
  · have e : addE [] (totalW st) s = 1 := by unfold addE; rw [hv]; rfl
    repeat (first | (refine ⟨fun h => ?_, fun h => ?_⟩; rotate_left 1; (focus (exfalso; (first | (with_reducible (cases h; done)) | (revert h; simp; done) | (revert h; simp; omega) | (revert h; simp [*]; done)))); clear h) | (refine ⟨fun h => ?_, fun h => ?_⟩; (focus (exfalso; (first | (with_reducible (cases h; done)) | (revert h; simp; done) | (revert h; simp; omega) | (revert h; simp [*]; done)))); clear h))
    exact ⟨_, Ent.drop (logH g r st c) [_], by rw [e]; rfl, .inl ⟨by rw [e]; decide, rfl⟩⟩
  have hva := (validB_iff.1 hv).q
  repeat (first | (refine ⟨fun h => ?_, fun h => ?_⟩; rotate_left 1; (focus (exfalso; (first | (with_reducible (cases h; done)) | (revert h; simp; done) | (revert h; simp; omega) | (revert h; simp [*]; done)))); clear h) | (refine ⟨fun h => ?_, fun h => ?_⟩; (focus (exfalso; (first | (with_reducible (cases h; done)) | (revert h; simp; done) | (revert h; simp; omega) | (revert h; simp [*]; done)))); clear h))
  refine ⟨[0,2], (.q 0 (.q 1 (.q 2 (.q 3 (.q 4 (.q 5 (.one 6 (.q 7 .nil)))))))), by kernel_rfl, ?_⟩
  refine ⟨_, ld 0 rfl rfl, ?_⟩
  refine ⟨_, ld 1 rfl rfl, ?_⟩
  refine ⟨0, rfl, like_ents _ _, ?_⟩
  rintro v f hf
  have hvn : v = .slice .none 0 0 := by
    rcases hf with ⟨j, hf, _⟩ | ⟨_, rfl, _⟩
    · rw [findE_none hx] at hf; cases hf
    · rfl
  subst hvn
  clear hf
  refine ⟨_, ld 1 rfl rfl, ?_⟩
  have h1 : ¬ s.q ≤ ((0 : Nat) : Int) := by omega
  repeat (first | (refine ⟨fun h => ?_, fun h => ?_⟩; rotate_left 1; (focus (exfalso; (first | (with_reducible (cases h; done)) | (revert h; simp; done) | (revert h; simp; omega) | (revert h; simp [*]; done)))); clear h) | (refine ⟨fun h => ?_, fun h => ?_⟩; (focus (exfalso; (first | (with_reducible (cases h; done)) | (revert h; simp; done) | (revert h; simp; omega) | (revert h; simp [*]; done)))); clear h))
  refine ⟨_, ld 1 rfl rfl, ?_⟩
  (intro z hz; obtain rfl : z = ((0 + 1 : Nat) : Int) := (by first | (rw [IntKind.wrap_i64] at hz; omega) | (rw [IntKind.wrap_u64] at hz; omega) | omega); clear hz)
  by_cases h2 : (((0 : Nat) + 1 : Nat) : Int) < s.q
  · have e1 : addE [] (totalW st) s = 6 := by unfold addE; rw [if_pos hv, if_neg (show ¬ s.q ≤ (([] : List Rec).length : Int) from h1), if_pos (show (([] : List Rec).length : Int) + 1 < s.q from h2)]
    repeat (first | (refine ⟨fun h => ?_, fun h => ?_⟩; rotate_left 1; (focus (exfalso; (first | (with_reducible (cases h; done)) | (revert h; simp; done) | (revert h; simp; omega) | (revert h; simp [*]; done)))); clear h) | (refine ⟨fun h => ?_, fun h => ?_⟩; (focus (exfalso; (first | (with_reducible (cases h; done)) | (revert h; simp; done) | (revert h; simp; omega) | (revert h; simp [*]; done)))); clear h))
    exact ⟨logH g r st c, Ent.pick [0, 1, 1] rfl, by rw [e1]; rfl, .inl ⟨by rw [e1]; decide, rfl⟩⟩
  have hc : contB s (lastC []) = true := decide_eq_true (by omega)
  have e0 : addE [] (totalW st) s = if 4096 ≤ totalW st then 7 else 0 := by
    unfold addE; rw [if_pos hv, if_neg (show ¬ s.q ≤ (([] : List Rec).length : Int) from h1), if_neg (show ¬ (([] : List Rec).length : Int) + 1 < s.q from h2), if_pos hc]
  repeat (first | (refine ⟨fun h => ?_, fun h => ?_⟩; rotate_left 1; (focus (exfalso; (first | (with_reducible (cases h; done)) | (revert h; simp; done) | (revert h; simp; omega) | (revert h; simp [*]; done)))); clear h) | (refine ⟨fun h => ?_, fun h => ?_⟩; (focus (exfalso; (first | (with_reducible (cases h; done)) | (revert h; simp; done) | (revert h; simp; omega) | (revert h; simp [*]; done)))); clear h))
  refine ⟨_, ld 1 rfl rfl, ?_⟩
  refine ⟨[2], _, last_ok _ (logR_own (R := R) (h := [.blk g 77 [.map (some r)], .blk gb 34 s.cells, .rows (rowsOf st)]) 0 2 hok rfl rfl) s.w (by rw [hch]; exact Nat.zero_le _), ?_⟩
  rintro _ _ ⟨rfl, rfl⟩
  rw [hch]
  intro g6
  refine ⟨rfl, rfl, 4, rfl, rfl, Nat.le_of_ble_eq_true rfl, ?_⟩
  refine ⟨s.cells, rdBlk 1 rfl, rfl, ?_⟩
  refine ⟨Snap.zero.cells, rdBlk 4 rfl, rfl, ?_⟩
  refine ⟨[], _, continues_ok _ (hG.rh _) s Snap.zero (by show (0 : Int) ≤ _; omega) (by show _ ≤ (0 : Int); omega) _ (fun h => by cases h), ?_⟩
  rintro _ _ ⟨rfl, rfl⟩
  have hc' : contB s (if (lastC ([] : List Rec)).isSome = true then some Snap.zero else .none) = true := hc
  rw [hc']
  repeat (first | (refine ⟨fun h => ?_, fun h => ?_⟩; rotate_left 1; (focus (exfalso; (first | (with_reducible (cases h; done)) | (revert h; simp; done) | (revert h; simp; omega) | (revert h; simp [*]; done)))); clear h) | (refine ⟨fun h => ?_, fun h => ?_⟩; (focus (exfalso; (first | (with_reducible (cases h; done)) | (revert h; simp; done) | (revert h; simp; omega) | (revert h; simp [*]; done)))); clear h))
  refine ⟨[3], _, count_ok _ hok (logR_own (R := R) (h := [.blk g 77 [.map (some r)], .blk gb 34 s.cells, .rows (rowsOf st), .blk g6 34 Snap.zero.cells]) 0 2 hok rfl rfl) htot, ?_⟩
  rintro _ _ ⟨rfl, rfl⟩
  by_cases h3 : (4096 : Int) ≤ totalW st
  · have e1 : addE [] (totalW st) s = 7 := by rw [e0, if_pos (by omega)]
    generalize totalW st = n at *
    repeat (first | (refine ⟨fun h => ?_, fun h => ?_⟩; rotate_left 1; (focus (exfalso; (first | (with_reducible (cases h; done)) | (revert h; simp; done) | (revert h; simp; omega) | (revert h; simp [*]; done)))); clear h) | (refine ⟨fun h => ?_, fun h => ?_⟩; (focus (exfalso; (first | (with_reducible (cases h; done)) | (revert h; simp; done) | (revert h; simp; omega) | (revert h; simp [*]; done)))); clear h))
    exact ⟨logH g r st c, Ent.pick [0, 3, 1] rfl, by rw [e1]; rfl, .inl ⟨by rw [e1]; decide, rfl⟩⟩
  have e1 : addE [] (totalW st) s = 0 := by rw [e0, if_neg (by omega)]
  rw [e1]
  generalize totalW st = n at *
  repeat (first | (refine ⟨fun h => ?_, fun h => ?_⟩; rotate_left 1; (focus (exfalso; (first | (with_reducible (cases h; done)) | (revert h; simp; done) | (revert h; simp; omega) | (revert h; simp [*]; done)))); clear h) | (refine ⟨fun h => ?_, fun h => ?_⟩; (focus (exfalso; (first | (with_reducible (cases h; done)) | (revert h; simp; done) | (revert h; simp; omega) | (revert h; simp [*]; done)))); clear h))
  refine ⟨[0,0], (.q 0 (.q 1 (.q 2 (.q 3 (.q 4 (.q 5 (.q 6 (.q 7 (.q 9 (.q 10 (.one 8 (.q 11 (.one 12 (.one 13 (.fin 14))))))))))))))), by kernel_rfl, ?_⟩
  refine ⟨_, ld 0 rfl rfl, ?_⟩
  refine ⟨_, ld 1 rfl rfl, ?_⟩
  refine ⟨s.cells, rdBlk 1 rfl, rfl, ?_⟩
  refine ⟨_, ld 1 rfl rfl, ?_⟩
  refine ⟨[], _, bare_ok _ s, ?_⟩
  rintro _ _ ⟨rfl, rfl⟩
  refine ⟨rfl, fun g7 => ?_⟩
  refine ⟨(⟨s.bare, false, s.hd⟩ : Rec).cells, rfl, rdRow 3 rfl, rfl, by show (_ + _) * 104 ≤ _; omega, by omega, .inl ⟨rfl, rfl, rfl, fun A' cap' hg' => ?_⟩⟩
  refine ⟨4, rfl, like_ents _ _, ?_⟩
  rintro es' c' hu
  obtain ⟨rfl, rfl⟩ := upd_new (l := [⟨s.bare, false, s.hd⟩]) hx rfl hu
  have hrow : ({ w := s.w, A := A', cap := cap', born := c, l := [(⟨s.bare, false, s.hd⟩ : Rec)] } : WR).row.ha = .row A' (0 + 1) cap' 79 12 ([] ++ (⟨s.bare, false, s.hd⟩ : Rec).cells) (0, 0) := rfl
  refine ⟨logH g r (st ++ [⟨s.w, A', cap', c, [(⟨s.bare, false, s.hd⟩ : Rec)]⟩]) (c + 1), ?_, rfl, .inr ⟨rfl, A', cap', hg', rfl⟩⟩
  have hin := logS_in g r st ⟨s.w, A', cap', c, [(⟨s.bare, false, s.hd⟩ : Rec)]⟩ [] (c + 1)
  refine Ent.trans ?_ hin
  unfold logS
  rw [hrow, List.append_nil]
  exact Ent.pick [0, 3, 4, 1] rfl

end Go.Proofs.YtbgfnofjnbpdgaaDoor
