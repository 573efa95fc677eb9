/-
  The reference's Add of a log.
-/
import Derived.Test.YtoddabjacjkjbaaDoorSny
namespace Go.Proofs.YtoddabjacjkjbaaDoor
open Go Go.RowKit
set_option linter.unusedVariables false

theorem rAdd_some {l : List Mk} {s : Snap} {i : Nat} {x : Mk} (hv : validB s = true) (hf : rFind l s.w s.q = some i) (hx : l[i]? = some x) : rAdd l s = if x.s.bare = s.bare then (l, 5) else (l, 13) := by
  unfold rAdd
  rw [if_pos hv, hf]
  show (match l[i]? with
      | some m => if m.s.bare = s.bare then (l, (5 : Int)) else (l, 13)
      | .none => (l, 13)) = _
  rw [hx]
theorem rAdd_none {l : List Mk} {s : Snap} (hv : validB s = true) (hf : rFind l s.w s.q = .none) : rAdd l s = if rGap (rLast (l.map Mk.s) s.w) s then (l, 6)
      else if contB s (rLast (l.map Mk.s) s.w) = true then (if l.length = 4096 then (l, 7) else (rPut l ⟨s, false⟩, 0)) else (l, 13) := by
  unfold rAdd
  rw [if_pos hv, hf]


theorem rPut_length (l : List Mk) (m : Mk) : (rPut l m).length = l.length + 1 := by
  unfold rPut
  have := congrArg List.length (List.takeWhile_append_dropWhile (p := fun x : Mk => rLess x.s m.s) (l := l))
  rw [List.length_append] at this
  rw [List.length_append, List.length_cons]
  omega

set_option maxRecDepth 100000 in
set_option maxHeartbeats 8000000 in
theorem refAdd_ok (R : Rd) {A : Option Addr} {cap : Nat} {l : List Mk} (hs : MkR R A cap l) (hn : l.length ≤ 1000000) (hc : l.length ≤ cap) (hva : ∀ s ∈ l.map Mk.s, Valid s) (s : Snap) (hq1 : -9223372036854775808 ≤ s.q) (hq2 : s.q ≤ 9223372036854775807) :
    Fn Tryd.prog 132 [.slice A l.length cap, .agg ⟨s.cells⟩] [] R (fun v h => ∃ u, v = .tuple ⟨[u, .int .i64 (rAdd l s).2]⟩ ∧ Nw A cap l (rAdd l s).1 u h) := by
  have hML := maxLen_eq
  have hml : (l.map Mk.s).length = l.length := List.length_map _
  refine fn_of_vc mixed tabOk Tryd.func132 rfl (by kernel_rfl) (Nat.le_of_ble_eq_true rfl) ?_
  intro g3
  refine ⟨s.cells, rdBlk 0 rfl, rfl, ?_⟩
  refine ⟨[], _, refValid_ok _ s hq1 hq2, ?_⟩
  rintro _ _ ⟨rfl, rfl⟩
  cases hv : validB s
  · have e : rAdd l s = (l, 1) := by unfold rAdd; rw [hv]; rfl
    rw [e]
    repeat (first | (refine ⟨fun h => ?_, fun h => ?_⟩; rotate_left 1; (focus (exfalso; (first | (with_reducible (cases h; done)) | (revert h; simp; done) | (revert h; simp; omega) | (revert h; simp [*]; done)))); clear h) | (refine ⟨fun h => ?_, fun h => ?_⟩; (focus (exfalso; (first | (with_reducible (cases h; done)) | (revert h; simp; done) | (revert h; simp; omega) | (revert h; simp [*]; done)))); clear h))
    exact ⟨_, Ent.nil _, _, rfl, Nw.old A cap l⟩
  repeat (first | (refine ⟨fun h => ?_, fun h => ?_⟩; rotate_left 1; (focus (exfalso; (first | (with_reducible (cases h; done)) | (revert h; simp; done) | (revert h; simp; omega) | (revert h; simp [*]; done)))); clear h) | (refine ⟨fun h => ?_, fun h => ?_⟩; (focus (exfalso; (first | (with_reducible (cases h; done)) | (revert h; simp; done) | (revert h; simp; omega) | (revert h; simp [*]; done)))); clear h))
  refine ⟨_, ld 0 rfl rfl, ?_⟩
  refine ⟨_, ld 0 rfl rfl, ?_⟩
  refine ⟨[], _, reffind_ok _ (hs.rh _) hn s.w s.q, ?_⟩
  rintro _ _ ⟨rfl, rfl⟩
  cases hf : rFind l s.w s.q with
  | some i =>
    have hil := rFind_lt hf
    have hget := List.getElem?_eq_getElem hil
    generalize l[i] = x at hget
    rw [rAdd_some hv hf hget]
    have hi0 : idxV (some i) = (i : Int) := rfl
    rw [hi0]
    obtain ⟨a, hA, hr⟩ := slr_at (c := Mk.cells) (fun _ => rfl) (by omega) hs hget
    repeat (first | (refine ⟨fun h => ?_, fun h => ?_⟩; rotate_left 1; (focus (exfalso; (first | (with_reducible (cases h; done)) | (revert h; simp; done) | (revert h; simp; omega) | (revert h; simp [*]; done)))); clear h) | (refine ⟨fun h => ?_, fun h => ?_⟩; (focus (exfalso; (first | (with_reducible (cases h; done)) | (revert h; simp; done) | (revert h; simp; omega) | (revert h; simp [*]; done)))); clear h))
    refine ⟨[0], (.q 0 (.q 1 (.q 2 (.q 3 (.q 4 (.q 5 (.one 6 .nil))))))), by kernel_rfl, ?_⟩
    refine ⟨by omega, by omega, a, hA, ?_⟩
    refine ⟨x.s.cells, fun j u hu => .inl (rdnS (vs := x.s.cells) (fun j u hu => hr j u (x.pre hu)) j u hu), rfl, ?_⟩
    refine ⟨s.cells, rdBlk 0 rfl, rfl, ?_⟩
    refine ⟨[], _, Same_ok _ x.s s, ?_⟩
    rintro _ _ ⟨e, rfl, hee, rfl⟩
    cases e
    · rw [if_neg (fun h => by have := hee.2 h; cases this)]
      repeat (first | (refine ⟨fun h => ?_, fun h => ?_⟩; rotate_left 1; (focus (exfalso; (first | (with_reducible (cases h; done)) | (revert h; simp; done) | (revert h; simp; omega) | (revert h; simp [*]; done)))); clear h) | (refine ⟨fun h => ?_, fun h => ?_⟩; (focus (exfalso; (first | (with_reducible (cases h; done)) | (revert h; simp; done) | (revert h; simp; omega) | (revert h; simp [*]; done)))); clear h))
      exact ⟨_, Ent.nil _, _, rfl, Nw.old A cap l⟩
    · rw [if_pos (hee.1 rfl)]
      repeat (first | (refine ⟨fun h => ?_, fun h => ?_⟩; rotate_left 1; (focus (exfalso; (first | (with_reducible (cases h; done)) | (revert h; simp; done) | (revert h; simp; omega) | (revert h; simp [*]; done)))); clear h) | (refine ⟨fun h => ?_, fun h => ?_⟩; (focus (exfalso; (first | (with_reducible (cases h; done)) | (revert h; simp; done) | (revert h; simp; omega) | (revert h; simp [*]; done)))); clear h))
      exact ⟨_, Ent.nil _, _, rfl, Nw.old A cap l⟩
  | none =>
    have e0 := rAdd_none hv hf
    have hm : idxV .none < 0 := by decide
    repeat (first | (refine ⟨fun h => ?_, fun h => ?_⟩; rotate_left 1; (focus (exfalso; (first | (with_reducible (cases h; done)) | (revert h; simp; done) | (revert h; simp; omega) | (revert h; simp [*]; done)))); clear h) | (refine ⟨fun h => ?_, fun h => ?_⟩; (focus (exfalso; (first | (with_reducible (cases h; done)) | (revert h; simp; done) | (revert h; simp; omega) | (revert h; simp [*]; done)))); clear h))
    refine ⟨[0], (.q 0 (.q 2 (.q 3 (.two 1 (.two 4 (.q 5 (.q 6 (.q 7 (.one 8 (.one 9 (.q 10 .nil)))))) 8 (.one 4 (.q 5 (.q 6 (.q 7 (.one 9 (.q 10 .nil))))))) 8 (.one 1 (.one 4 (.q 5 (.q 6 (.q 7 (.one 9 (.q 10 .nil))))))))))), by kernel_rfl, ?_⟩
    refine ⟨_, ld 0 rfl rfl, ?_⟩
    refine ⟨?_, ?_⟩
    · refine ⟨[], _, refRecords_ok _ ((hs.rh _).rh _) hn, ?_⟩
      rintro _ _ ⟨A1, cap1, hg1, rfl, rfl⟩
      refine ⟨?_, ?_⟩
      · refine ⟨[], _, reflast_ok _ (l := l.map Mk.s) (SlR.own 0 rfl (snaps_length _) hg1) (by omega) s.w, ?_⟩
        rintro _ _ ⟨rfl, rfl⟩
        intro g7
        refine ⟨rfl, rfl, 1, rfl, rfl, Nat.le_of_ble_eq_true rfl, ?_⟩
        cases hlast : rLast (l.map Mk.s) s.w with
        | none =>
          rw [hlast] at e0
          by_cases h1 : 1 < s.q
          · rw [if_pos (show rGap .none s from h1)] at e0
            rw [e0]
            repeat (first | (refine ⟨fun h => ?_, fun h => ?_⟩; rotate_left 1; (focus (exfalso; (first | (with_reducible (cases h; done)) | (revert h; simp; done) | (revert h; simp; omega) | (revert h; simp [*]; done)))); clear h) | (refine ⟨fun h => ?_, fun h => ?_⟩; (focus (exfalso; (first | (with_reducible (cases h; done)) | (revert h; simp; done) | (revert h; simp; omega) | (revert h; simp [*]; done)))); clear h))
            refine ⟨_, ld 0 rfl rfl, ?_⟩
            repeat (first | (refine ⟨fun h => ?_, fun h => ?_⟩; rotate_left 1; (focus (exfalso; (first | (with_reducible (cases h; done)) | (revert h; simp; done) | (revert h; simp; omega) | (revert h; simp [*]; done)))); clear h) | (refine ⟨fun h => ?_, fun h => ?_⟩; (focus (exfalso; (first | (with_reducible (cases h; done)) | (revert h; simp; done) | (revert h; simp; omega) | (revert h; simp [*]; done)))); clear h))
            exact ⟨_, Ent.nil _, _, rfl, Nw.old A cap l⟩
          · rw [if_neg (show ¬ rGap .none s from h1)] at e0
            repeat (first | (refine ⟨fun h => ?_, fun h => ?_⟩; rotate_left 1; (focus (exfalso; (first | (with_reducible (cases h; done)) | (revert h; simp; done) | (revert h; simp; omega) | (revert h; simp [*]; done)))); clear h) | (refine ⟨fun h => ?_, fun h => ?_⟩; (focus (exfalso; (first | (with_reducible (cases h; done)) | (revert h; simp; done) | (revert h; simp; omega) | (revert h; simp [*]; done)))); clear h))
            refine ⟨_, ld 0 rfl rfl, ?_⟩
            repeat (first | (refine ⟨fun h => ?_, fun h => ?_⟩; rotate_left 1; (focus (exfalso; (first | (with_reducible (cases h; done)) | (revert h; simp; done) | (revert h; simp; omega) | (revert h; simp [*]; done)))); clear h) | (refine ⟨fun h => ?_, fun h => ?_⟩; (focus (exfalso; (first | (with_reducible (cases h; done)) | (revert h; simp; done) | (revert h; simp; omega) | (revert h; simp [*]; done)))); clear h))
            refine ⟨[0], (.q 0 (.q 2 (.one 1 (.one 3 (.q 4 .nil))))), by kernel_rfl, ?_⟩
            refine ⟨s.cells, rdBlk 0 rfl, rfl, ?_⟩
            refine ⟨[], _, refRecords_ok _ ((hs.rh _).rh _) hn, ?_⟩
            rintro _ _ ⟨A3, cap3, hg3, rfl, rfl⟩
            refine ⟨[], _, refContinues_ok _ (l := l.map Mk.s) (SlR.own 2 rfl (snaps_length _) hg3) (by omega) hva s hq1 hq2, ?_⟩
            rintro _ _ ⟨rfl, rfl⟩
            rw [hv, Bool.true_and, hlast]
            cases hcb : contB s .none
            · rw [if_neg (by rw [hcb]; decide)] at e0
              rw [e0]
              repeat (first | (refine ⟨fun h => ?_, fun h => ?_⟩; rotate_left 1; (focus (exfalso; (first | (with_reducible (cases h; done)) | (revert h; simp; done) | (revert h; simp; omega) | (revert h; simp [*]; done)))); clear h) | (refine ⟨fun h => ?_, fun h => ?_⟩; (focus (exfalso; (first | (with_reducible (cases h; done)) | (revert h; simp; done) | (revert h; simp; omega) | (revert h; simp [*]; done)))); clear h))
              exact ⟨_, Ent.nil _, _, rfl, Nw.old A cap l⟩
            rw [if_pos (by rw [hcb])] at e0
            repeat (first | (refine ⟨fun h => ?_, fun h => ?_⟩; rotate_left 1; (focus (exfalso; (first | (with_reducible (cases h; done)) | (revert h; simp; done) | (revert h; simp; omega) | (revert h; simp [*]; done)))); clear h) | (refine ⟨fun h => ?_, fun h => ?_⟩; (focus (exfalso; (first | (with_reducible (cases h; done)) | (revert h; simp; done) | (revert h; simp; omega) | (revert h; simp [*]; done)))); clear h))
            by_cases hfull : l.length = 4096
            · rw [if_pos hfull] at e0
              rw [e0]
              repeat (first | (refine ⟨fun h => ?_, fun h => ?_⟩; rotate_left 1; (focus (exfalso; (first | (with_reducible (cases h; done)) | (revert h; simp; done) | (revert h; simp; omega) | (revert h; simp [*]; done)))); clear h) | (refine ⟨fun h => ?_, fun h => ?_⟩; (focus (exfalso; (first | (with_reducible (cases h; done)) | (revert h; simp; done) | (revert h; simp; omega) | (revert h; simp [*]; done)))); clear h))
              exact ⟨_, Ent.nil _, _, rfl, Nw.old A cap l⟩
            rw [if_neg hfull] at e0
            rw [e0]
            repeat (first | (refine ⟨fun h => ?_, fun h => ?_⟩; rotate_left 1; (focus (exfalso; (first | (with_reducible (cases h; done)) | (revert h; simp; done) | (revert h; simp; omega) | (revert h; simp [*]; done)))); clear h) | (refine ⟨fun h => ?_, fun h => ?_⟩; (focus (exfalso; (first | (with_reducible (cases h; done)) | (revert h; simp; done) | (revert h; simp; omega) | (revert h; simp [*]; done)))); clear h))
            refine ⟨s.cells, rdBlk 0 rfl, rfl, ?_⟩
            refine ⟨[], _, refput_ok _ (hs.rh _) hn hc ⟨s, false⟩, ?_⟩
            rintro _ _ ⟨A4, cap4, hg4, rfl, rfl⟩
            have hpl : (rPut l ⟨s, false⟩).length = l.length + 1 := rPut_length _ _
            rw [← hpl] at hg4 ⊢
            exact ⟨_, Ent.pick [4] rfl, _, rfl, Nw.new rfl hg4⟩
        | some p =>
          have hp := hva p (List.mem_reverse.1 (List.mem_of_find?_eq_some hlast))
          have hpq := hp.q
          rw [hlast] at e0
          repeat (first | (refine ⟨fun h => ?_, fun h => ?_⟩; rotate_left 1; (focus (exfalso; (first | (with_reducible (cases h; done)) | (revert h; simp; done) | (revert h; simp; omega) | (revert h; simp [*]; done)))); clear h) | (refine ⟨fun h => ?_, fun h => ?_⟩; (focus (exfalso; (first | (with_reducible (cases h; done)) | (revert h; simp; done) | (revert h; simp; omega) | (revert h; simp [*]; done)))); clear h))
          refine ⟨_, ld 0 rfl rfl, ?_⟩
          repeat (first | (refine ⟨fun h => ?_, fun h => ?_⟩; rotate_left 1; (focus (exfalso; (first | (with_reducible (cases h; done)) | (revert h; simp; done) | (revert h; simp; omega) | (revert h; simp [*]; done)))); clear h) | (refine ⟨fun h => ?_, fun h => ?_⟩; (focus (exfalso; (first | (with_reducible (cases h; done)) | (revert h; simp; done) | (revert h; simp; omega) | (revert h; simp [*]; done)))); clear h))
          (first | refine ⟨_, ld 0 rfl rfl, ?_⟩ | refine ⟨_, ld 1 rfl rfl, ?_⟩ | refine ⟨_, ld 2 rfl rfl, ?_⟩ | refine ⟨_, ld 3 rfl rfl, ?_⟩ | refine ⟨_, ld 4 rfl rfl, ?_⟩ | refine ⟨_, ld 5 rfl rfl, ?_⟩ | refine ⟨_, ld 6 rfl rfl, ?_⟩ | refine ⟨_, ld 7 rfl rfl, ?_⟩ | refine ⟨_, ld 8 rfl rfl, ?_⟩ | refine ⟨_, ld 9 rfl rfl, ?_⟩ | refine ⟨_, ld 10 rfl rfl, ?_⟩ | refine ⟨_, ld 11 rfl rfl, ?_⟩)
          repeat (first | (refine ⟨fun h => ?_, fun h => ?_⟩; rotate_left 1; (focus (exfalso; (first | (with_reducible (cases h; done)) | (revert h; simp; done) | (revert h; simp; omega) | (revert h; simp [*]; done)))); clear h) | (refine ⟨fun h => ?_, fun h => ?_⟩; (focus (exfalso; (first | (with_reducible (cases h; done)) | (revert h; simp; done) | (revert h; simp; omega) | (revert h; simp [*]; done)))); clear h))
          (intro z hz; obtain rfl : z = p.q + 1 := by (have h2 : z = IntKind.wrap .i64 (p.q + 1) := hz; rw [IntKind.wrap_i64] at h2; omega)); clear hz
          repeat (first | (refine ⟨fun h => ?_, fun h => ?_⟩; rotate_left 1; (focus (exfalso; (first | (with_reducible (cases h; done)) | (revert h; simp; done) | (revert h; simp; omega) | (revert h; simp [*]; done)))); clear h) | (refine ⟨fun h => ?_, fun h => ?_⟩; (focus (exfalso; (first | (with_reducible (cases h; done)) | (revert h; simp; done) | (revert h; simp; omega) | (revert h; simp [*]; done)))); clear h))
          by_cases h1 : p.q + 1 < s.q
          · rw [if_pos (show rGap (some p) s from h1)] at e0
            rw [e0]
            repeat (first | (refine ⟨fun h => ?_, fun h => ?_⟩; rotate_left 1; (focus (exfalso; (first | (with_reducible (cases h; done)) | (revert h; simp; done) | (revert h; simp; omega) | (revert h; simp [*]; done)))); clear h) | (refine ⟨fun h => ?_, fun h => ?_⟩; (focus (exfalso; (first | (with_reducible (cases h; done)) | (revert h; simp; done) | (revert h; simp; omega) | (revert h; simp [*]; done)))); clear h))
            exact ⟨_, Ent.nil _, _, rfl, Nw.old A cap l⟩
          · rw [if_neg (show ¬ rGap (some p) s from h1)] at e0
            repeat (first | (refine ⟨fun h => ?_, fun h => ?_⟩; rotate_left 1; (focus (exfalso; (first | (with_reducible (cases h; done)) | (revert h; simp; done) | (revert h; simp; omega) | (revert h; simp [*]; done)))); clear h) | (refine ⟨fun h => ?_, fun h => ?_⟩; (focus (exfalso; (first | (with_reducible (cases h; done)) | (revert h; simp; done) | (revert h; simp; omega) | (revert h; simp [*]; done)))); clear h))
            refine ⟨[0], (.q 0 (.q 2 (.one 1 (.one 3 (.q 4 .nil))))), by kernel_rfl, ?_⟩
            refine ⟨s.cells, rdBlk 0 rfl, rfl, ?_⟩
            refine ⟨[], _, refRecords_ok _ ((hs.rh _).rh _) hn, ?_⟩
            rintro _ _ ⟨A3, cap3, hg3, rfl, rfl⟩
            refine ⟨[], _, refContinues_ok _ (l := l.map Mk.s) (SlR.own 2 rfl (snaps_length _) hg3) (by omega) hva s hq1 hq2, ?_⟩
            rintro _ _ ⟨rfl, rfl⟩
            rw [hv, Bool.true_and, hlast]
            cases hcb : contB s (some p)
            · rw [if_neg (by rw [hcb]; decide)] at e0
              rw [e0]
              repeat (first | (refine ⟨fun h => ?_, fun h => ?_⟩; rotate_left 1; (focus (exfalso; (first | (with_reducible (cases h; done)) | (revert h; simp; done) | (revert h; simp; omega) | (revert h; simp [*]; done)))); clear h) | (refine ⟨fun h => ?_, fun h => ?_⟩; (focus (exfalso; (first | (with_reducible (cases h; done)) | (revert h; simp; done) | (revert h; simp; omega) | (revert h; simp [*]; done)))); clear h))
              exact ⟨_, Ent.nil _, _, rfl, Nw.old A cap l⟩
            rw [if_pos (by rw [hcb])] at e0
            repeat (first | (refine ⟨fun h => ?_, fun h => ?_⟩; rotate_left 1; (focus (exfalso; (first | (with_reducible (cases h; done)) | (revert h; simp; done) | (revert h; simp; omega) | (revert h; simp [*]; done)))); clear h) | (refine ⟨fun h => ?_, fun h => ?_⟩; (focus (exfalso; (first | (with_reducible (cases h; done)) | (revert h; simp; done) | (revert h; simp; omega) | (revert h; simp [*]; done)))); clear h))
            by_cases hfull : l.length = 4096
            · rw [if_pos hfull] at e0
              rw [e0]
              repeat (first | (refine ⟨fun h => ?_, fun h => ?_⟩; rotate_left 1; (focus (exfalso; (first | (with_reducible (cases h; done)) | (revert h; simp; done) | (revert h; simp; omega) | (revert h; simp [*]; done)))); clear h) | (refine ⟨fun h => ?_, fun h => ?_⟩; (focus (exfalso; (first | (with_reducible (cases h; done)) | (revert h; simp; done) | (revert h; simp; omega) | (revert h; simp [*]; done)))); clear h))
              exact ⟨_, Ent.nil _, _, rfl, Nw.old A cap l⟩
            rw [if_neg hfull] at e0
            rw [e0]
            repeat (first | (refine ⟨fun h => ?_, fun h => ?_⟩; rotate_left 1; (focus (exfalso; (first | (with_reducible (cases h; done)) | (revert h; simp; done) | (revert h; simp; omega) | (revert h; simp [*]; done)))); clear h) | (refine ⟨fun h => ?_, fun h => ?_⟩; (focus (exfalso; (first | (with_reducible (cases h; done)) | (revert h; simp; done) | (revert h; simp; omega) | (revert h; simp [*]; done)))); clear h))
            refine ⟨s.cells, rdBlk 0 rfl, rfl, ?_⟩
            refine ⟨[], _, refput_ok _ (hs.rh _) hn hc ⟨s, false⟩, ?_⟩
            rintro _ _ ⟨A4, cap4, hg4, rfl, rfl⟩
            have hpl : (rPut l ⟨s, false⟩).length = l.length + 1 := rPut_length _ _
            rw [← hpl] at hg4 ⊢
            exact ⟨_, Ent.pick [4] rfl, _, rfl, Nw.new rfl hg4⟩
      · intro g7
        refine ⟨[], _, reflast_ok _ (l := l.map Mk.s) (SlR.own 0 rfl (snaps_length _) hg1) (by omega) s.w, ?_⟩
        rintro _ _ ⟨rfl, rfl⟩
        refine ⟨rfl, rfl, 1, rfl, rfl, Nat.le_of_ble_eq_true rfl, ?_⟩
        cases hlast : rLast (l.map Mk.s) s.w with
        | none =>
          rw [hlast] at e0
          by_cases h1 : 1 < s.q
          · rw [if_pos (show rGap .none s from h1)] at e0
            rw [e0]
            repeat (first | (refine ⟨fun h => ?_, fun h => ?_⟩; rotate_left 1; (focus (exfalso; (first | (with_reducible (cases h; done)) | (revert h; simp; done) | (revert h; simp; omega) | (revert h; simp [*]; done)))); clear h) | (refine ⟨fun h => ?_, fun h => ?_⟩; (focus (exfalso; (first | (with_reducible (cases h; done)) | (revert h; simp; done) | (revert h; simp; omega) | (revert h; simp [*]; done)))); clear h))
            refine ⟨_, ld 0 rfl rfl, ?_⟩
            repeat (first | (refine ⟨fun h => ?_, fun h => ?_⟩; rotate_left 1; (focus (exfalso; (first | (with_reducible (cases h; done)) | (revert h; simp; done) | (revert h; simp; omega) | (revert h; simp [*]; done)))); clear h) | (refine ⟨fun h => ?_, fun h => ?_⟩; (focus (exfalso; (first | (with_reducible (cases h; done)) | (revert h; simp; done) | (revert h; simp; omega) | (revert h; simp [*]; done)))); clear h))
            exact ⟨_, Ent.nil _, _, rfl, Nw.old A cap l⟩
          · rw [if_neg (show ¬ rGap .none s from h1)] at e0
            repeat (first | (refine ⟨fun h => ?_, fun h => ?_⟩; rotate_left 1; (focus (exfalso; (first | (with_reducible (cases h; done)) | (revert h; simp; done) | (revert h; simp; omega) | (revert h; simp [*]; done)))); clear h) | (refine ⟨fun h => ?_, fun h => ?_⟩; (focus (exfalso; (first | (with_reducible (cases h; done)) | (revert h; simp; done) | (revert h; simp; omega) | (revert h; simp [*]; done)))); clear h))
            refine ⟨_, ld 0 rfl rfl, ?_⟩
            repeat (first | (refine ⟨fun h => ?_, fun h => ?_⟩; rotate_left 1; (focus (exfalso; (first | (with_reducible (cases h; done)) | (revert h; simp; done) | (revert h; simp; omega) | (revert h; simp [*]; done)))); clear h) | (refine ⟨fun h => ?_, fun h => ?_⟩; (focus (exfalso; (first | (with_reducible (cases h; done)) | (revert h; simp; done) | (revert h; simp; omega) | (revert h; simp [*]; done)))); clear h))
            refine ⟨[0], (.q 0 (.q 2 (.one 1 (.one 3 (.q 4 .nil))))), by kernel_rfl, ?_⟩
            refine ⟨s.cells, rdBlk 0 rfl, rfl, ?_⟩
            refine ⟨[], _, refRecords_ok _ ((hs.rh _).rh _) hn, ?_⟩
            rintro _ _ ⟨A3, cap3, hg3, rfl, rfl⟩
            refine ⟨[], _, refContinues_ok _ (l := l.map Mk.s) (SlR.own 2 rfl (snaps_length _) hg3) (by omega) hva s hq1 hq2, ?_⟩
            rintro _ _ ⟨rfl, rfl⟩
            rw [hv, Bool.true_and, hlast]
            cases hcb : contB s .none
            · rw [if_neg (by rw [hcb]; decide)] at e0
              rw [e0]
              repeat (first | (refine ⟨fun h => ?_, fun h => ?_⟩; rotate_left 1; (focus (exfalso; (first | (with_reducible (cases h; done)) | (revert h; simp; done) | (revert h; simp; omega) | (revert h; simp [*]; done)))); clear h) | (refine ⟨fun h => ?_, fun h => ?_⟩; (focus (exfalso; (first | (with_reducible (cases h; done)) | (revert h; simp; done) | (revert h; simp; omega) | (revert h; simp [*]; done)))); clear h))
              exact ⟨_, Ent.nil _, _, rfl, Nw.old A cap l⟩
            rw [if_pos (by rw [hcb])] at e0
            repeat (first | (refine ⟨fun h => ?_, fun h => ?_⟩; rotate_left 1; (focus (exfalso; (first | (with_reducible (cases h; done)) | (revert h; simp; done) | (revert h; simp; omega) | (revert h; simp [*]; done)))); clear h) | (refine ⟨fun h => ?_, fun h => ?_⟩; (focus (exfalso; (first | (with_reducible (cases h; done)) | (revert h; simp; done) | (revert h; simp; omega) | (revert h; simp [*]; done)))); clear h))
            by_cases hfull : l.length = 4096
            · rw [if_pos hfull] at e0
              rw [e0]
              repeat (first | (refine ⟨fun h => ?_, fun h => ?_⟩; rotate_left 1; (focus (exfalso; (first | (with_reducible (cases h; done)) | (revert h; simp; done) | (revert h; simp; omega) | (revert h; simp [*]; done)))); clear h) | (refine ⟨fun h => ?_, fun h => ?_⟩; (focus (exfalso; (first | (with_reducible (cases h; done)) | (revert h; simp; done) | (revert h; simp; omega) | (revert h; simp [*]; done)))); clear h))
              exact ⟨_, Ent.nil _, _, rfl, Nw.old A cap l⟩
            rw [if_neg hfull] at e0
            rw [e0]
            repeat (first | (refine ⟨fun h => ?_, fun h => ?_⟩; rotate_left 1; (focus (exfalso; (first | (with_reducible (cases h; done)) | (revert h; simp; done) | (revert h; simp; omega) | (revert h; simp [*]; done)))); clear h) | (refine ⟨fun h => ?_, fun h => ?_⟩; (focus (exfalso; (first | (with_reducible (cases h; done)) | (revert h; simp; done) | (revert h; simp; omega) | (revert h; simp [*]; done)))); clear h))
            refine ⟨s.cells, rdBlk 0 rfl, rfl, ?_⟩
            refine ⟨[], _, refput_ok _ (hs.rh _) hn hc ⟨s, false⟩, ?_⟩
            rintro _ _ ⟨A4, cap4, hg4, rfl, rfl⟩
            have hpl : (rPut l ⟨s, false⟩).length = l.length + 1 := rPut_length _ _
            rw [← hpl] at hg4 ⊢
            exact ⟨_, Ent.pick [4] rfl, _, rfl, Nw.new rfl hg4⟩
        | some p =>
          have hp := hva p (List.mem_reverse.1 (List.mem_of_find?_eq_some hlast))
          have hpq := hp.q
          rw [hlast] at e0
          repeat (first | (refine ⟨fun h => ?_, fun h => ?_⟩; rotate_left 1; (focus (exfalso; (first | (with_reducible (cases h; done)) | (revert h; simp; done) | (revert h; simp; omega) | (revert h; simp [*]; done)))); clear h) | (refine ⟨fun h => ?_, fun h => ?_⟩; (focus (exfalso; (first | (with_reducible (cases h; done)) | (revert h; simp; done) | (revert h; simp; omega) | (revert h; simp [*]; done)))); clear h))
          refine ⟨_, ld 0 rfl rfl, ?_⟩
          repeat (first | (refine ⟨fun h => ?_, fun h => ?_⟩; rotate_left 1; (focus (exfalso; (first | (with_reducible (cases h; done)) | (revert h; simp; done) | (revert h; simp; omega) | (revert h; simp [*]; done)))); clear h) | (refine ⟨fun h => ?_, fun h => ?_⟩; (focus (exfalso; (first | (with_reducible (cases h; done)) | (revert h; simp; done) | (revert h; simp; omega) | (revert h; simp [*]; done)))); clear h))
          (first | refine ⟨_, ld 0 rfl rfl, ?_⟩ | refine ⟨_, ld 1 rfl rfl, ?_⟩ | refine ⟨_, ld 2 rfl rfl, ?_⟩ | refine ⟨_, ld 3 rfl rfl, ?_⟩ | refine ⟨_, ld 4 rfl rfl, ?_⟩ | refine ⟨_, ld 5 rfl rfl, ?_⟩ | refine ⟨_, ld 6 rfl rfl, ?_⟩ | refine ⟨_, ld 7 rfl rfl, ?_⟩ | refine ⟨_, ld 8 rfl rfl, ?_⟩ | refine ⟨_, ld 9 rfl rfl, ?_⟩ | refine ⟨_, ld 10 rfl rfl, ?_⟩ | refine ⟨_, ld 11 rfl rfl, ?_⟩)
          repeat (first | (refine ⟨fun h => ?_, fun h => ?_⟩; rotate_left 1; (focus (exfalso; (first | (with_reducible (cases h; done)) | (revert h; simp; done) | (revert h; simp; omega) | (revert h; simp [*]; done)))); clear h) | (refine ⟨fun h => ?_, fun h => ?_⟩; (focus (exfalso; (first | (with_reducible (cases h; done)) | (revert h; simp; done) | (revert h; simp; omega) | (revert h; simp [*]; done)))); clear h))
          (intro z hz; obtain rfl : z = p.q + 1 := by (have h2 : z = IntKind.wrap .i64 (p.q + 1) := hz; rw [IntKind.wrap_i64] at h2; omega)); clear hz
          repeat (first | (refine ⟨fun h => ?_, fun h => ?_⟩; rotate_left 1; (focus (exfalso; (first | (with_reducible (cases h; done)) | (revert h; simp; done) | (revert h; simp; omega) | (revert h; simp [*]; done)))); clear h) | (refine ⟨fun h => ?_, fun h => ?_⟩; (focus (exfalso; (first | (with_reducible (cases h; done)) | (revert h; simp; done) | (revert h; simp; omega) | (revert h; simp [*]; done)))); clear h))
          by_cases h1 : p.q + 1 < s.q
          · rw [if_pos (show rGap (some p) s from h1)] at e0
            rw [e0]
            repeat (first | (refine ⟨fun h => ?_, fun h => ?_⟩; rotate_left 1; (focus (exfalso; (first | (with_reducible (cases h; done)) | (revert h; simp; done) | (revert h; simp; omega) | (revert h; simp [*]; done)))); clear h) | (refine ⟨fun h => ?_, fun h => ?_⟩; (focus (exfalso; (first | (with_reducible (cases h; done)) | (revert h; simp; done) | (revert h; simp; omega) | (revert h; simp [*]; done)))); clear h))
            exact ⟨_, Ent.nil _, _, rfl, Nw.old A cap l⟩
          · rw [if_neg (show ¬ rGap (some p) s from h1)] at e0
            repeat (first | (refine ⟨fun h => ?_, fun h => ?_⟩; rotate_left 1; (focus (exfalso; (first | (with_reducible (cases h; done)) | (revert h; simp; done) | (revert h; simp; omega) | (revert h; simp [*]; done)))); clear h) | (refine ⟨fun h => ?_, fun h => ?_⟩; (focus (exfalso; (first | (with_reducible (cases h; done)) | (revert h; simp; done) | (revert h; simp; omega) | (revert h; simp [*]; done)))); clear h))
            refine ⟨[0], (.q 0 (.q 2 (.one 1 (.one 3 (.q 4 .nil))))), by kernel_rfl, ?_⟩
            refine ⟨s.cells, rdBlk 0 rfl, rfl, ?_⟩
            refine ⟨[], _, refRecords_ok _ ((hs.rh _).rh _) hn, ?_⟩
            rintro _ _ ⟨A3, cap3, hg3, rfl, rfl⟩
            refine ⟨[], _, refContinues_ok _ (l := l.map Mk.s) (SlR.own 2 rfl (snaps_length _) hg3) (by omega) hva s hq1 hq2, ?_⟩
            rintro _ _ ⟨rfl, rfl⟩
            rw [hv, Bool.true_and, hlast]
            cases hcb : contB s (some p)
            · rw [if_neg (by rw [hcb]; decide)] at e0
              rw [e0]
              repeat (first | (refine ⟨fun h => ?_, fun h => ?_⟩; rotate_left 1; (focus (exfalso; (first | (with_reducible (cases h; done)) | (revert h; simp; done) | (revert h; simp; omega) | (revert h; simp [*]; done)))); clear h) | (refine ⟨fun h => ?_, fun h => ?_⟩; (focus (exfalso; (first | (with_reducible (cases h; done)) | (revert h; simp; done) | (revert h; simp; omega) | (revert h; simp [*]; done)))); clear h))
              exact ⟨_, Ent.nil _, _, rfl, Nw.old A cap l⟩
            rw [if_pos (by rw [hcb])] at e0
            repeat (first | (refine ⟨fun h => ?_, fun h => ?_⟩; rotate_left 1; (focus (exfalso; (first | (with_reducible (cases h; done)) | (revert h; simp; done) | (revert h; simp; omega) | (revert h; simp [*]; done)))); clear h) | (refine ⟨fun h => ?_, fun h => ?_⟩; (focus (exfalso; (first | (with_reducible (cases h; done)) | (revert h; simp; done) | (revert h; simp; omega) | (revert h; simp [*]; done)))); clear h))
            by_cases hfull : l.length = 4096
            · rw [if_pos hfull] at e0
              rw [e0]
              repeat (first | (refine ⟨fun h => ?_, fun h => ?_⟩; rotate_left 1; (focus (exfalso; (first | (with_reducible (cases h; done)) | (revert h; simp; done) | (revert h; simp; omega) | (revert h; simp [*]; done)))); clear h) | (refine ⟨fun h => ?_, fun h => ?_⟩; (focus (exfalso; (first | (with_reducible (cases h; done)) | (revert h; simp; done) | (revert h; simp; omega) | (revert h; simp [*]; done)))); clear h))
              exact ⟨_, Ent.nil _, _, rfl, Nw.old A cap l⟩
            rw [if_neg hfull] at e0
            rw [e0]
            repeat (first | (refine ⟨fun h => ?_, fun h => ?_⟩; rotate_left 1; (focus (exfalso; (first | (with_reducible (cases h; done)) | (revert h; simp; done) | (revert h; simp; omega) | (revert h; simp [*]; done)))); clear h) | (refine ⟨fun h => ?_, fun h => ?_⟩; (focus (exfalso; (first | (with_reducible (cases h; done)) | (revert h; simp; done) | (revert h; simp; omega) | (revert h; simp [*]; done)))); clear h))
            refine ⟨s.cells, rdBlk 0 rfl, rfl, ?_⟩
            refine ⟨[], _, refput_ok _ (hs.rh _) hn hc ⟨s, false⟩, ?_⟩
            rintro _ _ ⟨A4, cap4, hg4, rfl, rfl⟩
            have hpl : (rPut l ⟨s, false⟩).length = l.length + 1 := rPut_length _ _
            rw [← hpl] at hg4 ⊢
            exact ⟨_, Ent.pick [4] rfl, _, rfl, Nw.new rfl hg4⟩
    · intro g7
      refine ⟨[], _, refRecords_ok _ ((hs.rh _).rh _) hn, ?_⟩
      rintro _ _ ⟨A1, cap1, hg1, rfl, rfl⟩
      refine ⟨[], _, reflast_ok _ (l := l.map Mk.s) (SlR.own 1 rfl (snaps_length _) hg1) (by omega) s.w, ?_⟩
      rintro _ _ ⟨rfl, rfl⟩
      refine ⟨rfl, rfl, 0, rfl, rfl, Nat.le_of_ble_eq_true rfl, ?_⟩
      cases hlast : rLast (l.map Mk.s) s.w with
      | none =>
        rw [hlast] at e0
        by_cases h1 : 1 < s.q
        · rw [if_pos (show rGap .none s from h1)] at e0
          rw [e0]
          repeat (first | (refine ⟨fun h => ?_, fun h => ?_⟩; rotate_left 1; (focus (exfalso; (first | (with_reducible (cases h; done)) | (revert h; simp; done) | (revert h; simp; omega) | (revert h; simp [*]; done)))); clear h) | (refine ⟨fun h => ?_, fun h => ?_⟩; (focus (exfalso; (first | (with_reducible (cases h; done)) | (revert h; simp; done) | (revert h; simp; omega) | (revert h; simp [*]; done)))); clear h))
          refine ⟨_, ld 0 rfl rfl, ?_⟩
          repeat (first | (refine ⟨fun h => ?_, fun h => ?_⟩; rotate_left 1; (focus (exfalso; (first | (with_reducible (cases h; done)) | (revert h; simp; done) | (revert h; simp; omega) | (revert h; simp [*]; done)))); clear h) | (refine ⟨fun h => ?_, fun h => ?_⟩; (focus (exfalso; (first | (with_reducible (cases h; done)) | (revert h; simp; done) | (revert h; simp; omega) | (revert h; simp [*]; done)))); clear h))
          exact ⟨_, Ent.nil _, _, rfl, Nw.old A cap l⟩
        · rw [if_neg (show ¬ rGap .none s from h1)] at e0
          repeat (first | (refine ⟨fun h => ?_, fun h => ?_⟩; rotate_left 1; (focus (exfalso; (first | (with_reducible (cases h; done)) | (revert h; simp; done) | (revert h; simp; omega) | (revert h; simp [*]; done)))); clear h) | (refine ⟨fun h => ?_, fun h => ?_⟩; (focus (exfalso; (first | (with_reducible (cases h; done)) | (revert h; simp; done) | (revert h; simp; omega) | (revert h; simp [*]; done)))); clear h))
          refine ⟨_, ld 0 rfl rfl, ?_⟩
          repeat (first | (refine ⟨fun h => ?_, fun h => ?_⟩; rotate_left 1; (focus (exfalso; (first | (with_reducible (cases h; done)) | (revert h; simp; done) | (revert h; simp; omega) | (revert h; simp [*]; done)))); clear h) | (refine ⟨fun h => ?_, fun h => ?_⟩; (focus (exfalso; (first | (with_reducible (cases h; done)) | (revert h; simp; done) | (revert h; simp; omega) | (revert h; simp [*]; done)))); clear h))
          refine ⟨[0], (.q 0 (.q 2 (.one 1 (.one 3 (.q 4 .nil))))), by kernel_rfl, ?_⟩
          refine ⟨s.cells, rdBlk 0 rfl, rfl, ?_⟩
          refine ⟨[], _, refRecords_ok _ ((hs.rh _).rh _) hn, ?_⟩
          rintro _ _ ⟨A3, cap3, hg3, rfl, rfl⟩
          refine ⟨[], _, refContinues_ok _ (l := l.map Mk.s) (SlR.own 2 rfl (snaps_length _) hg3) (by omega) hva s hq1 hq2, ?_⟩
          rintro _ _ ⟨rfl, rfl⟩
          rw [hv, Bool.true_and, hlast]
          cases hcb : contB s .none
          · rw [if_neg (by rw [hcb]; decide)] at e0
            rw [e0]
            repeat (first | (refine ⟨fun h => ?_, fun h => ?_⟩; rotate_left 1; (focus (exfalso; (first | (with_reducible (cases h; done)) | (revert h; simp; done) | (revert h; simp; omega) | (revert h; simp [*]; done)))); clear h) | (refine ⟨fun h => ?_, fun h => ?_⟩; (focus (exfalso; (first | (with_reducible (cases h; done)) | (revert h; simp; done) | (revert h; simp; omega) | (revert h; simp [*]; done)))); clear h))
            exact ⟨_, Ent.nil _, _, rfl, Nw.old A cap l⟩
          rw [if_pos (by rw [hcb])] at e0
          repeat (first | (refine ⟨fun h => ?_, fun h => ?_⟩; rotate_left 1; (focus (exfalso; (first | (with_reducible (cases h; done)) | (revert h; simp; done) | (revert h; simp; omega) | (revert h; simp [*]; done)))); clear h) | (refine ⟨fun h => ?_, fun h => ?_⟩; (focus (exfalso; (first | (with_reducible (cases h; done)) | (revert h; simp; done) | (revert h; simp; omega) | (revert h; simp [*]; done)))); clear h))
          by_cases hfull : l.length = 4096
          · rw [if_pos hfull] at e0
            rw [e0]
            repeat (first | (refine ⟨fun h => ?_, fun h => ?_⟩; rotate_left 1; (focus (exfalso; (first | (with_reducible (cases h; done)) | (revert h; simp; done) | (revert h; simp; omega) | (revert h; simp [*]; done)))); clear h) | (refine ⟨fun h => ?_, fun h => ?_⟩; (focus (exfalso; (first | (with_reducible (cases h; done)) | (revert h; simp; done) | (revert h; simp; omega) | (revert h; simp [*]; done)))); clear h))
            exact ⟨_, Ent.nil _, _, rfl, Nw.old A cap l⟩
          rw [if_neg hfull] at e0
          rw [e0]
          repeat (first | (refine ⟨fun h => ?_, fun h => ?_⟩; rotate_left 1; (focus (exfalso; (first | (with_reducible (cases h; done)) | (revert h; simp; done) | (revert h; simp; omega) | (revert h; simp [*]; done)))); clear h) | (refine ⟨fun h => ?_, fun h => ?_⟩; (focus (exfalso; (first | (with_reducible (cases h; done)) | (revert h; simp; done) | (revert h; simp; omega) | (revert h; simp [*]; done)))); clear h))
          refine ⟨s.cells, rdBlk 0 rfl, rfl, ?_⟩
          refine ⟨[], _, refput_ok _ (hs.rh _) hn hc ⟨s, false⟩, ?_⟩
          rintro _ _ ⟨A4, cap4, hg4, rfl, rfl⟩
          have hpl : (rPut l ⟨s, false⟩).length = l.length + 1 := rPut_length _ _
          rw [← hpl] at hg4 ⊢
          exact ⟨_, Ent.pick [4] rfl, _, rfl, Nw.new rfl hg4⟩
      | some p =>
        have hp := hva p (List.mem_reverse.1 (List.mem_of_find?_eq_some hlast))
        have hpq := hp.q
        rw [hlast] at e0
        repeat (first | (refine ⟨fun h => ?_, fun h => ?_⟩; rotate_left 1; (focus (exfalso; (first | (with_reducible (cases h; done)) | (revert h; simp; done) | (revert h; simp; omega) | (revert h; simp [*]; done)))); clear h) | (refine ⟨fun h => ?_, fun h => ?_⟩; (focus (exfalso; (first | (with_reducible (cases h; done)) | (revert h; simp; done) | (revert h; simp; omega) | (revert h; simp [*]; done)))); clear h))
        refine ⟨_, ld 0 rfl rfl, ?_⟩
        repeat (first | (refine ⟨fun h => ?_, fun h => ?_⟩; rotate_left 1; (focus (exfalso; (first | (with_reducible (cases h; done)) | (revert h; simp; done) | (revert h; simp; omega) | (revert h; simp [*]; done)))); clear h) | (refine ⟨fun h => ?_, fun h => ?_⟩; (focus (exfalso; (first | (with_reducible (cases h; done)) | (revert h; simp; done) | (revert h; simp; omega) | (revert h; simp [*]; done)))); clear h))
        (first | refine ⟨_, ld 0 rfl rfl, ?_⟩ | refine ⟨_, ld 1 rfl rfl, ?_⟩ | refine ⟨_, ld 2 rfl rfl, ?_⟩ | refine ⟨_, ld 3 rfl rfl, ?_⟩ | refine ⟨_, ld 4 rfl rfl, ?_⟩ | refine ⟨_, ld 5 rfl rfl, ?_⟩ | refine ⟨_, ld 6 rfl rfl, ?_⟩ | refine ⟨_, ld 7 rfl rfl, ?_⟩ | refine ⟨_, ld 8 rfl rfl, ?_⟩ | refine ⟨_, ld 9 rfl rfl, ?_⟩ | refine ⟨_, ld 10 rfl rfl, ?_⟩ | refine ⟨_, ld 11 rfl rfl, ?_⟩)
        repeat (first | (refine ⟨fun h => ?_, fun h => ?_⟩; rotate_left 1; (focus (exfalso; (first | (with_reducible (cases h; done)) | (revert h; simp; done) | (revert h; simp; omega) | (revert h; simp [*]; done)))); clear h) | (refine ⟨fun h => ?_, fun h => ?_⟩; (focus (exfalso; (first | (with_reducible (cases h; done)) | (revert h; simp; done) | (revert h; simp; omega) | (revert h; simp [*]; done)))); clear h))
        (intro z hz; obtain rfl : z = p.q + 1 := by (have h2 : z = IntKind.wrap .i64 (p.q + 1) := hz; rw [IntKind.wrap_i64] at h2; omega)); clear hz
        repeat (first | (refine ⟨fun h => ?_, fun h => ?_⟩; rotate_left 1; (focus (exfalso; (first | (with_reducible (cases h; done)) | (revert h; simp; done) | (revert h; simp; omega) | (revert h; simp [*]; done)))); clear h) | (refine ⟨fun h => ?_, fun h => ?_⟩; (focus (exfalso; (first | (with_reducible (cases h; done)) | (revert h; simp; done) | (revert h; simp; omega) | (revert h; simp [*]; done)))); clear h))
        by_cases h1 : p.q + 1 < s.q
        · rw [if_pos (show rGap (some p) s from h1)] at e0
          rw [e0]
          repeat (first | (refine ⟨fun h => ?_, fun h => ?_⟩; rotate_left 1; (focus (exfalso; (first | (with_reducible (cases h; done)) | (revert h; simp; done) | (revert h; simp; omega) | (revert h; simp [*]; done)))); clear h) | (refine ⟨fun h => ?_, fun h => ?_⟩; (focus (exfalso; (first | (with_reducible (cases h; done)) | (revert h; simp; done) | (revert h; simp; omega) | (revert h; simp [*]; done)))); clear h))
          exact ⟨_, Ent.nil _, _, rfl, Nw.old A cap l⟩
        · rw [if_neg (show ¬ rGap (some p) s from h1)] at e0
          repeat (first | (refine ⟨fun h => ?_, fun h => ?_⟩; rotate_left 1; (focus (exfalso; (first | (with_reducible (cases h; done)) | (revert h; simp; done) | (revert h; simp; omega) | (revert h; simp [*]; done)))); clear h) | (refine ⟨fun h => ?_, fun h => ?_⟩; (focus (exfalso; (first | (with_reducible (cases h; done)) | (revert h; simp; done) | (revert h; simp; omega) | (revert h; simp [*]; done)))); clear h))
          refine ⟨[0], (.q 0 (.q 2 (.one 1 (.one 3 (.q 4 .nil))))), by kernel_rfl, ?_⟩
          refine ⟨s.cells, rdBlk 0 rfl, rfl, ?_⟩
          refine ⟨[], _, refRecords_ok _ ((hs.rh _).rh _) hn, ?_⟩
          rintro _ _ ⟨A3, cap3, hg3, rfl, rfl⟩
          refine ⟨[], _, refContinues_ok _ (l := l.map Mk.s) (SlR.own 2 rfl (snaps_length _) hg3) (by omega) hva s hq1 hq2, ?_⟩
          rintro _ _ ⟨rfl, rfl⟩
          rw [hv, Bool.true_and, hlast]
          cases hcb : contB s (some p)
          · rw [if_neg (by rw [hcb]; decide)] at e0
            rw [e0]
            repeat (first | (refine ⟨fun h => ?_, fun h => ?_⟩; rotate_left 1; (focus (exfalso; (first | (with_reducible (cases h; done)) | (revert h; simp; done) | (revert h; simp; omega) | (revert h; simp [*]; done)))); clear h) | (refine ⟨fun h => ?_, fun h => ?_⟩; (focus (exfalso; (first | (with_reducible (cases h; done)) | (revert h; simp; done) | (revert h; simp; omega) | (revert h; simp [*]; done)))); clear h))
            exact ⟨_, Ent.nil _, _, rfl, Nw.old A cap l⟩
          rw [if_pos (by rw [hcb])] at e0
          repeat (first | (refine ⟨fun h => ?_, fun h => ?_⟩; rotate_left 1; (focus (exfalso; (first | (with_reducible (cases h; done)) | (revert h; simp; done) | (revert h; simp; omega) | (revert h; simp [*]; done)))); clear h) | (refine ⟨fun h => ?_, fun h => ?_⟩; (focus (exfalso; (first | (with_reducible (cases h; done)) | (revert h; simp; done) | (revert h; simp; omega) | (revert h; simp [*]; done)))); clear h))
          by_cases hfull : l.length = 4096
          · rw [if_pos hfull] at e0
            rw [e0]
            repeat (first | (refine ⟨fun h => ?_, fun h => ?_⟩; rotate_left 1; (focus (exfalso; (first | (with_reducible (cases h; done)) | (revert h; simp; done) | (revert h; simp; omega) | (revert h; simp [*]; done)))); clear h) | (refine ⟨fun h => ?_, fun h => ?_⟩; (focus (exfalso; (first | (with_reducible (cases h; done)) | (revert h; simp; done) | (revert h; simp; omega) | (revert h; simp [*]; done)))); clear h))
            exact ⟨_, Ent.nil _, _, rfl, Nw.old A cap l⟩
          rw [if_neg hfull] at e0
          rw [e0]
          repeat (first | (refine ⟨fun h => ?_, fun h => ?_⟩; rotate_left 1; (focus (exfalso; (first | (with_reducible (cases h; done)) | (revert h; simp; done) | (revert h; simp; omega) | (revert h; simp [*]; done)))); clear h) | (refine ⟨fun h => ?_, fun h => ?_⟩; (focus (exfalso; (first | (with_reducible (cases h; done)) | (revert h; simp; done) | (revert h; simp; omega) | (revert h; simp [*]; done)))); clear h))
          refine ⟨s.cells, rdBlk 0 rfl, rfl, ?_⟩
          refine ⟨[], _, refput_ok _ (hs.rh _) hn hc ⟨s, false⟩, ?_⟩
          rintro _ _ ⟨A4, cap4, hg4, rfl, rfl⟩
          have hpl : (rPut l ⟨s, false⟩).length = l.length + 1 := rPut_length _ _
          rw [← hpl] at hg4 ⊢
          exact ⟨_, Ent.pick [4] rfl, _, rfl, Nw.new rfl hg4⟩

end Go.Proofs.YtoddabjacjkjbaaDoor
