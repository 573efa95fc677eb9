/-
  Contracts over a log as a whole: Next, Latest, Of. What a log holds stays good.
-/
import Derived.Test.YtbgfnofjnbpdgaaDoorSno
namespace Go.Proofs.YtbgfnofjnbpdgaaDoor
open Go Go.RowKit
set_option linter.unusedVariables false

theorem good_last {C : Int → List Rec} (hC : GoodC C) {w : Int} {p : Snap} (hp : lastC (C w) = some p) : Valid p := by
  unfold lastC at hp
  rw [List.getLast?_eq_getElem?] at hp
  obtain ⟨y, hy, rfl⟩ := Option.map_eq_some_iff.1 hp
  exact (hC.rcd _ _ _ hy).2.2.2

theorem Next_okL (R : Rd) (hG : ShaG R) {g : Nat} {C : Int → List Rec} {h : Hp} (hL : LogIs g C h) (hC : GoodC C) (hn : countC C ≤ 1000000) (w d : Int) (nm : Str) (gn sz fl bt : Int) :
    Fn Tryd.prog 16 [.pointer (some ⟨g, 0, .none⟩), .int .i64 w, .int .i64 d, .agg ⟨[.string ⟨⟨nm⟩⟩, .int .i64 gn, .int .i64 sz]⟩, .int .i64 fl, .int .i64 bt] h R
      (fun v h' => v = .tuple ⟨[.agg ⟨(nextL (lastC (C w)) w d nm gn sz fl bt).1.cells⟩, .int .i64 (nextL (lastC (C w)) w d nm gn sz fl bt).2]⟩ ∧ LogIs g C h') := by
  obtain ⟨r, st, c, hok, hch, rfl⟩ := hL
  have hCe : chainOf st = C := funext hch
  subst hCe
  have hlen := len_le_count hC.out w
  refine Fn.pre (h0 := [logM r st c] ++ [.blk g 77 [.map (some r)], .rows (rowsOf st)]) (Ent.pick [1, 0, 0] (by exact rfl)) (Fn.ent (Fn.frame (Next_ok _ (hG.rh _) (logR_own 0 1 hok rfl rfl) w d nm gn sz fl bt (by omega) (fun s hs => good_last hC hs))) ?_)
  rintro _ _ ⟨_, rfl, rfl, rfl⟩
  exact ⟨logH g r st c, Ent.pick [0, 1, 0] rfl, rfl, r, st, c, hok, fun _ => rfl, rfl⟩
theorem Latest_okL (R : Rd) {g : Nat} {C : Int → List Rec} {h : Hp} (hL : LogIs g C h) (hC : GoodC C) (hn : countC C ≤ 1000000) (w d : Int) :
    Fn Tryd.prog 18 [.pointer (some ⟨g, 0, .none⟩), .int .i64 w, .int .i64 d] h R
      (fun v h' => v = .tuple ⟨[.agg ⟨(latestC C w d).1.cells⟩, .int .i64 (latestC C w d).2]⟩ ∧ LogIs g C h') := by
  obtain ⟨r, st, c, hok, hch, rfl⟩ := hL
  have hCe : chainOf st = C := funext hch
  subst hCe
  have hlen := len_le_count hC.out w
  refine Fn.pre (h0 := [logM r st c] ++ [.blk g 77 [.map (some r)], .rows (rowsOf st)]) (Ent.pick [1, 0, 0] (by exact rfl)) (Fn.ent (Fn.frame (Latest_ok _ (logR_own 0 1 hok rfl rfl) w d (by omega))) ?_)
  rintro _ _ ⟨_, rfl, rfl, rfl⟩
  exact ⟨logH g r st c, Ent.pick [0, 1, 0] rfl, rfl, r, st, c, hok, fun _ => rfl, rfl⟩
theorem Of_okL (R : Rd) {g : Nat} {C : Int → List Rec} {h : Hp} (hL : LogIs g C h) (hC : GoodC C) (hn : countC C ≤ 1000000) (w : Int) :
    Fn Tryd.prog 15 [.pointer (some ⟨g, 0, .none⟩), .int .i64 w] h R
      (fun v h' => ∃ A cap h1, grow (C w).length A ∧ v = .slice A (C w).length cap ∧ LogIs g C h1 ∧ h' = .row A (C w).length cap 34 10 (snaps ((C w).map Rec.shown)) (0, 0) :: h1) := by
  obtain ⟨r, st, c, hok, hch, rfl⟩ := hL
  have hCe : chainOf st = C := funext hch
  subst hCe
  have hlen := len_le_count hC.out w
  refine Fn.pre (h0 := [logM r st c] ++ [.blk g 77 [.map (some r)], .rows (rowsOf st)]) (Ent.pick [1, 0, 0] (by exact rfl)) (Fn.ent (Fn.frame (Of_ok _ (logR_own 0 1 hok rfl rfl) w (by omega))) ?_)
  rintro _ _ ⟨_, rfl, A, cap, hg, rfl, rfl⟩
  exact ⟨_ :: logH g r st c, Ent.pick [3, 0, 1, 0] rfl, A, cap, _, hg, rfl, ⟨r, st, c, hok, fun _ => rfl, rfl⟩, rfl⟩

/-! ### what a log holds stays good -/
theorem GoodC.empty : GoodC (fun _ => []) := ⟨fun _ _ => rfl, fun _ _ _ h => by simp at h, fun _ _ _ _ h => by simp at h, fun _ _ _ h => by simp at h⟩
theorem updC_same (C : Int → List Rec) (w : Int) (l : List Rec) : updC C w l w = l := if_pos rfl
theorem updC_other (C : Int → List Rec) {w v : Int} (l : List Rec) (h : v ≠ w) : updC C w l v = C v := if_neg h
theorem GoodC.add {C : Int → List Rec} (hC : GoodC C) (s : Snap) : GoodC (addC C s).1 := by
  unfold addC
  by_cases h1 : validB s = true
  · rw [if_pos h1]
    by_cases h2 : s.q ≤ ((C s.w).length : Int)
    · rw [if_pos h2]
      cases (C s.w)[(s.q - 1).toNat]? with
      | none => exact hC
      | some x =>
        show GoodC (if x.s = s.bare then (C, (5 : Int)) else (C, 13)).1
        by_cases h3 : x.s = s.bare
        · rw [if_pos h3]; exact hC
        · rw [if_neg h3]; exact hC
    · rw [if_neg h2]
      by_cases h3 : ((C s.w).length : Int) + 1 < s.q
      · rw [if_pos h3]; exact hC
      · rw [if_neg h3]
        by_cases h4 : contB s (lastC (C s.w)) = true
        · rw [if_pos h4]
          by_cases h5 : 4096 ≤ countC C
          · rw [if_pos h5]; exact hC
          · rw [if_neg h5]
            have hV := validB_iff.1 h1
            have hnew : ∀ {w : Int} {i : Nat} {x : Rec}, (updC C s.w (C s.w ++ [⟨s.bare, false, s.hd⟩]) w)[i]? = some x → (C w)[i]? = some x ∨ (w = s.w ∧ i = (C s.w).length ∧ x = ⟨s.bare, false, s.hd⟩) := by
              intro w i x hx
              by_cases hw : w = s.w
              · rw [hw, updC_same] at hx
                by_cases hi : i < (C s.w).length
                · rw [List.getElem?_append_left hi] at hx
                  rw [hw]; exact .inl hx
                · rw [List.getElem?_append_right (by omega)] at hx
                  by_cases hi2 : i = (C s.w).length
                  · rw [hi2, Nat.sub_self] at hx
                    simp at hx
                    exact .inr ⟨hw, hi2, hx.symm⟩
                  · rw [List.getElem?_eq_none (by simp; omega)] at hx; cases hx
              · rw [updC_other _ _ hw] at hx; exact .inl hx
            refine ⟨fun w hw => ?_, fun w i x hx => ?_, fun w i x y hx hy => ?_, fun w i x hx hf => ?_⟩
            · have hne : w ≠ s.w := fun e => hw (e ▸ hV.w)
              exact (updC_other _ _ hne).trans (hC.out w hw)
            · rcases hnew hx with hx | ⟨hw, hi, rfl⟩
              · exact hC.rcd w i x hx
              · have hq := hV.q
                exact ⟨hw.symm, by show s.q = _; omega, rfl, hV.bare⟩
            · rcases hnew hy with hy | ⟨hw, hi, rfl⟩
              · rcases hnew hx with hx | ⟨hw, hi, rfl⟩
                · exact hC.link w i x y hx hy
                · have := (List.getElem?_eq_some_iff.1 hy).1
                  rw [hw] at this; omega
              · rcases hnew hx with hx | ⟨_, hi2, _⟩
                · have hl : lastC (C s.w) = some x.s := by
                    unfold lastC
                    rw [List.getLast?_eq_getElem?, ← hi, ← hw, Nat.add_sub_cancel, hx]; rfl
                  rw [hl] at h4
                  have h4 : (decide (s.q = x.s.q + 1) && (decide (x.s.d ≤ s.d) && decide (s.pv = sumP x.s))) = true := h4
                  simp only [Bool.and_eq_true, decide_eq_true_eq] at h4
                  exact h4.2
                · omega
            · rcases hnew hx with hx | ⟨_, _, rfl⟩
              · exact hC.mark w i x hx hf
              · cases hf
        · rw [if_neg h4]; exact hC
  · rw [if_neg h1]; exact hC

theorem GoodC.set {C : Int → List Rec} (hC : GoodC C) {w : Int} {i : Nat} {y y' : Rec} (hy : (C w)[i]? = some y) (hs : y'.s = y.s) (hm : y'.fo = true → y'.he = false) : GoodC (updC C w ((C w).set i y')) := by
  have hnew : ∀ {v : Int} {j : Nat} {x : Rec}, (updC C w ((C w).set i y') v)[j]? = some x → ∃ x0, (C v)[j]? = some x0 ∧ x.s = x0.s ∧ (x = x0 ∨ x = y') := by
    intro v j x hx
    by_cases hv : v = w
    · rw [hv, updC_same, List.getElem?_set] at hx
      by_cases hj : i = j
      · have hi := (List.getElem?_eq_some_iff.1 hy).1
        rw [if_pos hj, if_pos hi] at hx
        cases hx
        rw [hv, ← hj]; exact ⟨y, hy, hs, .inr rfl⟩
      · rw [if_neg hj] at hx
        rw [hv]; exact ⟨x, hx, rfl, .inl rfl⟩
    · rw [updC_other _ _ hv] at hx
      exact ⟨x, hx, rfl, .inl rfl⟩
  refine ⟨fun v hv => ?_, fun v j x hx => ?_, fun v j x z hx hz => ?_, fun v j x hx hf => ?_⟩
  · by_cases hvw : v = w
    · have := hC.out v hv
      rw [hvw] at this
      rw [this] at hy; simp at hy
    · exact (updC_other _ _ hvw).trans (hC.out v hv)
  · obtain ⟨x0, h0, h1, _⟩ := hnew hx
    rw [h1]; exact hC.rcd v j x0 h0
  · obtain ⟨x0, h0, h1, _⟩ := hnew hx
    obtain ⟨z0, g0, g1, _⟩ := hnew hz
    rw [h1, g1]; exact hC.link v j x0 z0 h0 g0
  · obtain ⟨x0, h0, h1, h2⟩ := hnew hx
    rcases h2 with rfl | rfl
    · exact hC.mark v j _ h0 hf
    · exact hm hf
theorem findC_some {C : Int → List Rec} {w q : Int} {y : Rec} (h : findC C w q = some y) : (C w)[(q - 1).toNat]? = some y := by
  unfold findC at h
  by_cases h1 : q < 1
  · rw [if_pos h1] at h; cases h
  · rw [if_neg h1] at h; exact h
theorem GoodC.forget {C : Int → List Rec} (hC : GoodC C) (w q : Int) : GoodC (forgetC C w q).1 := by
  unfold forgetC
  cases hf : findC C w q with
  | none => exact hC
  | some x =>
    show GoodC (if x.fo = true then (C, (6 : Int)) else if x.he = true then (C, 14) else (updC C w ((C w).set (q - 1).toNat { x with fo := true }), 0)).1
    by_cases h1 : x.fo = true
    · rw [if_pos h1]; exact hC
    · rw [if_neg h1]
      by_cases h2 : x.he = true
      · rw [if_pos h2]; exact hC
      · rw [if_neg h2]
        exact hC.set (findC_some hf) rfl fun _ => by cases hh : x.he <;> first | rfl | exact absurd hh h2
theorem GoodC.hold {C : Int → List Rec} (hC : GoodC C) (w q : Int) (b : Bool) : GoodC (holdC C w q b).1 := by
  unfold holdC
  cases hf : findC C w q with
  | none => exact hC
  | some x =>
    show GoodC (if x.fo = true then (C, (6 : Int)) else (updC C w ((C w).set (q - 1).toNat { x with he := b }), 0)).1
    by_cases h1 : x.fo = true
    · rw [if_pos h1]; exact hC
    · rw [if_neg h1]
      exact hC.set (findC_some hf) rfl fun h => absurd h h1

end Go.Proofs.YtbgfnofjnbpdgaaDoor
