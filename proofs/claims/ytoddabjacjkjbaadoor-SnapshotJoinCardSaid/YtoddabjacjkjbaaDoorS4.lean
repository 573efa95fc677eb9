/-
  Operations on a log, plain: what each does; how many records there are.
-/
import Derived.Test.YtoddabjacjkjbaaDoorS3
import Derived.Test.YtoddabjacjkjbaaDoorS1
namespace Go.Proofs.YtoddabjacjkjbaaDoor
open Go Go.RowKit
set_option linter.unusedVariables false

/-- An operation. -/
structure SOp where
  k : Int
  s : Snap
  w : Int
  q : Int
  d : Int
  b : Bool
def SOp.cells (x : SOp) : List Value := [.int .i64 x.k, .int .i64 x.s.w, .int .i64 x.s.q, .int .i64 x.s.d, .string ⟨⟨x.s.nm⟩⟩, .int .i64 x.s.gn, .int .i64 x.s.sz, .int .i64 x.s.fl, .int .i64 x.s.bt, .string ⟨⟨x.s.pv⟩⟩, .bool x.s.hd, .int .i64 x.w, .int .i64 x.q, .int .i64 x.d, .bool x.b]
def sops (l : List SOp) : List Value := l.flatMap SOp.cells

abbrev Lg := Int → List Rec
/-- What an operation does to a log, its record and its error. -/
def stepC (C : Lg) (x : SOp) : Lg × Snap × Int :=
  if x.k = 0 then
    (if (nextL (lastC (C x.w)) x.w x.d x.s.nm x.s.gn x.s.sz x.s.fl x.s.bt).2 = 0 then
      ((addC C { (nextL (lastC (C x.w)) x.w x.d x.s.nm x.s.gn x.s.sz x.s.fl x.s.bt).1 with hd := x.b }).1, { (nextL (lastC (C x.w)) x.w x.d x.s.nm x.s.gn x.s.sz x.s.fl x.s.bt).1 with hd := x.b }, (addC C { (nextL (lastC (C x.w)) x.w x.d x.s.nm x.s.gn x.s.sz x.s.fl x.s.bt).1 with hd := x.b }).2)
    else (C, (nextL (lastC (C x.w)) x.w x.d x.s.nm x.s.gn x.s.sz x.s.fl x.s.bt).1, (nextL (lastC (C x.w)) x.w x.d x.s.nm x.s.gn x.s.sz x.s.fl x.s.bt).2))
  else if x.k = 1 then ((addC C x.s).1, Snap.zero, (addC C x.s).2)
  else if x.k = 2 then ((forgetC C x.w x.q).1, Snap.zero, (forgetC C x.w x.q).2)
  else if x.k = 3 then ((holdC C x.w x.q x.b).1, Snap.zero, (holdC C x.w x.q x.b).2)
  else (C, (latestC C x.w x.d).1, (latestC C x.w x.d).2)
def runC (C : Lg) (l : List SOp) : Lg := l.foldl (fun C x => (stepC C x).1) C
theorem runC_take {C : Lg} {l : List SOp} {i : Nat} {x : SOp} (h : l[i]? = some x) : runC C (l.take (i + 1)) = (stepC (runC C (l.take i)) x).1 := by
  rw [List.take_add_one, h]
  simp [runC]

theorem GoodC.step {C : Lg} (hC : GoodC C) (x : SOp) : GoodC (stepC C x).1 := by
  unfold stepC
  split
  · split
    · exact hC.add _
    · exact hC
  · split
    · exact hC.add _
    · split
      · exact hC.forget _ _
      · split
        · exact hC.hold _ _ _
        · exact hC

/-! ### counts -/
theorem countC_upd {C : Lg} {w : Int} (hw : 0 ≤ w ∧ w ≤ 11) (l : List Rec) : countC (updC C w l) + (C w).length = countC C + l.length := by
  rw [countC_eq, countC_eq]
  unfold updC
  rcases wr_cases hw with rfl | rfl | rfl | rfl | rfl | rfl | rfl | rfl | rfl | rfl | rfl | rfl <;> (simp only [Int.reduceEq, if_true, if_false]; omega)
theorem countC_out {C : Lg} {w : Int} (hw : ¬ (0 ≤ w ∧ w ≤ 11)) (l : List Rec) : countC (updC C w l) = countC C := by
  rw [countC_eq, countC_eq]
  unfold updC
  have h0 : ¬ (0 : Int) = w := by omega
  have h1 : ¬ (1 : Int) = w := by omega
  have h2 : ¬ (2 : Int) = w := by omega
  have h3 : ¬ (3 : Int) = w := by omega
  have h4 : ¬ (4 : Int) = w := by omega
  have h5 : ¬ (5 : Int) = w := by omega
  have h6 : ¬ (6 : Int) = w := by omega
  have h7 : ¬ (7 : Int) = w := by omega
  have h8 : ¬ (8 : Int) = w := by omega
  have h9 : ¬ (9 : Int) = w := by omega
  have h10 : ¬ (10 : Int) = w := by omega
  have h11 : ¬ (11 : Int) = w := by omega
  simp only [h0, h1, h2, h3, h4, h5, h6, h7, h8, h9, h10, h11, if_false]
theorem countC_set (C : Lg) (w : Int) (i : Nat) (y : Rec) : countC (updC C w ((C w).set i y)) = countC C := by
  by_cases hw : 0 ≤ w ∧ w ≤ 11
  · have := countC_upd hw (C := C) ((C w).set i y)
    rw [List.length_set] at this
    omega
  · exact countC_out hw _
theorem countC_add (C : Lg) (s : Snap) : countC (addC C s).1 ≤ countC C + 1 := by
  rw [addC_eq]
  split
  · by_cases hw : 0 ≤ s.w ∧ s.w ≤ 11
    · have := countC_upd hw (C := C) (C s.w ++ [⟨s.bare, false, s.hd⟩])
      rw [List.length_append] at this
      show countC (updC C s.w _) ≤ _
      simp only [List.length_cons, List.length_nil] at this
      omega
    · show countC (updC C s.w _) ≤ _
      rw [countC_out hw]; omega
  · exact Nat.le_succ _
theorem countC_forget (C : Lg) (w q : Int) : countC (forgetC C w q).1 = countC C := by
  unfold forgetC
  split
  · rfl
  · split
    · rfl
    · split
      · rfl
      · exact countC_set _ _ _ _
theorem countC_hold (C : Lg) (w q : Int) (b : Bool) : countC (holdC C w q b).1 = countC C := by
  unfold holdC
  split
  · rfl
  · split
    · rfl
    · exact countC_set _ _ _ _
theorem countC_step (C : Lg) (x : SOp) : countC (stepC C x).1 ≤ countC C + 1 := by
  unfold stepC
  split
  · split
    · exact countC_add _ _
    · exact Nat.le_succ _
  · split
    · exact countC_add _ _
    · split
      · show countC (forgetC C x.w x.q).1 ≤ _; rw [countC_forget]; omega
      · split
        · show countC (holdC C x.w x.q x.b).1 ≤ _; rw [countC_hold]; omega
        · exact Nat.le_succ _
theorem runC_good {C : Lg} (hC : GoodC C) : ∀ (l : List SOp), GoodC (runC C l) ∧ countC (runC C l) ≤ countC C + l.length := by
  intro l
  induction l generalizing C with
  | nil => exact ⟨hC, Nat.le_refl _⟩
  | cons x l ih =>
    obtain ⟨h1, h2⟩ := ih (hC.step x)
    refine ⟨h1, ?_⟩
    have := countC_step C x
    have e : runC C (x :: l) = runC (stepC C x).1 l := rfl
    rw [e, List.length_cons]; omega
theorem count_empty : countC (fun _ => []) = 0 := rfl

/-! ### what is retained -/
def retC (C : Lg) : List Snap := (List.range 12).flatMap fun w : Nat => ((C w).filter fun x => !x.fo).map Rec.shown
/-- The reference's selection: the records of a writer (any, if it is below 0), or the retained ones only. -/
def rSel (l : List Mk) (w : Int) (r : Bool) : List Snap := (l.filter fun m => (decide (w < 0) || decide (m.s.w = w)) && !(r && m.fo)).map Mk.s
theorem rSel_ret (C : Lg) : rSel (flatC C) (-1) true = retC C := by
  unfold rSel flatC flatN retC
  rw [List.filter_flatMap, List.map_flatMap, List.range_eq_range', List.flatMap_def, List.flatMap_def]
  congr 1
  apply List.map_congr_left
  intro w _
  rw [List.filter_map, List.map_map]
  have e : ((fun m : Mk => (decide ((-1 : Int) < 0) || decide (m.s.w = -1)) && !(true && m.fo)) ∘ Rec.mk') = fun x : Rec => !x.fo := by
    funext x
    show ((decide ((-1 : Int) < 0) || decide (x.s.w = -1)) && !(true && x.fo)) = !x.fo
    simp
  rw [e]; rfl
theorem rSel_of {C : Lg} (hC : GoodC C) {w : Int} (hw : 0 ≤ w) : rSel (flatC C) w false = (C w).map Rec.shown := by
  have ep : (fun m : Mk => (decide (w < 0) || decide (m.s.w = w)) && !(false && m.fo)) = fun m : Mk => decide (m.s.w = w) := by
    funext m
    rw [decide_eq_false (by omega : ¬ w < 0)]; simp
  unfold rSel
  rw [ep]
  by_cases hw1 : w ≤ 11
  · obtain ⟨n, rfl⟩ := Int.eq_ofNat_of_zero_le hw
    have hn : n < 12 := by omega
    rw [flatC_split C hn, List.filter_append, List.filter_append]
    rw [List.filter_eq_nil_iff.2 (fun m hm => by have := flatN_lo hC m hm; simp; omega), (List.filter_eq_nil_iff (l := flatN C (n + 1) (11 - n))).2 (fun m hm => by have := flatN_hi hC m hm; simp; omega), List.filter_eq_self.2 (fun m hm => decide_eq_true (chain_mk hC m hm))]
    rw [List.nil_append, List.append_nil, List.map_map]; rfl
  · rw [hC.out w (by omega), List.filter_eq_nil_iff.2]
    · rfl
    · intro m hm
      obtain ⟨h1, h2, _⟩ := mem_flatC hC hm
      simp; omega
theorem rSel_length (l : List Mk) (w : Int) (r : Bool) : (rSel l w r).length ≤ l.length := by
  unfold rSel; rw [List.length_map]; exact List.length_filter_le _ _
theorem retC_length (C : Lg) : (retC C).length ≤ countC C := by
  rw [← rSel_ret, ← flatC_length]; exact rSel_length _ _ _

end Go.Proofs.YtoddabjacjkjbaaDoor

namespace Go.Proofs.YtoddabjacjkjbaaDoor
open Go Go.RowKit
set_option linter.unusedVariables false

theorem mem_ret {C : Lg} {s : Snap} (h : s ∈ retC C) : ∃ (w : Nat) (x : Rec), w < 12 ∧ x ∈ C w ∧ x.fo = false ∧ s = x.shown := by
  obtain ⟨w, hw, hs⟩ := List.mem_flatMap.1 h
  obtain ⟨x, hx, rfl⟩ := List.mem_map.1 hs
  obtain ⟨h1, h2⟩ := List.mem_filter.1 hx
  exact ⟨w, x, List.mem_range.1 hw, h1, by simpa using h2, rfl⟩
theorem ret_mem {C : Lg} (hC : GoodC C) {w : Int} {x : Rec} (h : x ∈ C w) (hf : x.fo = false) : x.shown ∈ retC C := by
  by_cases hw : 0 ≤ w ∧ w ≤ 11
  · obtain ⟨n, rfl⟩ := Int.eq_ofNat_of_zero_le hw.1
    exact List.mem_flatMap.2 ⟨n, List.mem_range.2 (by omega), List.mem_map.2 ⟨x, List.mem_filter.2 ⟨h, by simp [hf]⟩, rfl⟩⟩
  · rw [hC.out w hw] at h; cases h

theorem latest_spec {C : Lg} (hC : GoodC C) (w d : Int) :
    ((latestC C w d).2 = 4 ∨ ((latestC C w d).2 = 0 ∧ (latestC C w d).1 ∈ retC C ∧ (latestC C w d).1.w = w ∧ (latestC C w d).1.d ≤ d)) ∧
    ∀ s ∈ retC C, s.w = w → s.d ≤ d → (latestC C w d).2 = 0 ∧ s.q ≤ (latestC C w d).1.q := by
  have hmem : ∀ s ∈ retC C, s.w = w → s.d ≤ d → ∃ x ∈ C w, okB d x = true ∧ s = x.shown := by
    intro s hs h1 h2
    obtain ⟨v, x, hv, hx, hf, rfl⟩ := mem_ret hs
    obtain ⟨i, hi⟩ := List.getElem?_of_mem hx
    obtain ⟨hw, _⟩ := hC.rcd _ _ _ hi
    have e : (v : Int) = w := by rw [← hw]; exact h1
    rw [e] at hx
    refine ⟨x, hx, ?_, rfl⟩
    have hd : x.s.d ≤ d := h2
    unfold okB
    rw [hf, decide_eq_true hd]; rfl
  have hl : latestC C w d = match (C w).reverse.find? (okB d) with
    | some x => (x.shown, 0)
    | .none => (Snap.zero, 4) := rfl
  cases hf : (C w).reverse.find? (okB d) with
  | none =>
    rw [hf] at hl
    rw [hl]
    refine ⟨.inl rfl, fun s hs h1 h2 => ?_⟩
    obtain ⟨x, hx, ho, _⟩ := hmem s hs h1 h2
    exact absurd ho (List.find?_eq_none.1 hf x (List.mem_reverse.2 hx))
  | some x =>
    rw [hf] at hl
    rw [hl]
    obtain ⟨hpx, aa, bs, heq, has⟩ := List.find?_eq_some_iff_append.1 hf
    have hCw : C w = bs.reverse ++ x :: aa.reverse := by
      have := congrArg List.reverse heq
      rw [List.reverse_reverse] at this
      rw [this]; simp
    have hxi : (C w)[bs.length]? = some x := by
      rw [hCw, List.getElem?_append_right (by simp)]; simp
    obtain ⟨r1, r2, r3, r4⟩ := hC.rcd _ _ _ hxi
    have hxm : x ∈ C w := List.mem_of_getElem? hxi
    have hx2 : x.fo = false ∧ x.s.d ≤ d := by
      unfold okB at hpx
      simpa using hpx
    refine ⟨.inr ⟨rfl, ret_mem hC hxm hx2.1, r1, hx2.2⟩, fun s hs h1 h2 => ⟨rfl, ?_⟩⟩
    obtain ⟨y, hy, ho, rfl⟩ := hmem s hs h1 h2
    rw [hCw] at hy
    show y.s.q ≤ x.s.q
    rcases List.mem_append.1 hy with hy | hy
    · obtain ⟨i, hi⟩ := List.getElem?_of_mem hy
      have hlt := (List.getElem?_eq_some_iff.1 hi).1
      have hi2 : (C w)[i]? = some y := by rw [hCw, List.getElem?_append_left hlt]; exact hi
      have := (hC.rcd _ _ _ hi2).2.1
      rw [List.length_reverse] at hlt
      omega
    · rcases List.mem_cons.1 hy with rfl | hy
      · exact Int.le_refl _
      · have := has y (List.mem_reverse.1 hy)
        rw [ho] at this
        cases this

/-! ### a chain is verified -/
theorem good_ver {C : Lg} (hC : GoodC C) (w : Int) : ∀ i < (C w).length, verB ((C w).map Rec.shown) i = true := by
  intro i hi
  have hget := List.getElem?_eq_getElem hi
  generalize (C w)[i] = x at hget
  obtain ⟨r1, r2, r3, r4⟩ := hC.rcd _ _ _ hget
  have hall : ∀ s ∈ (((C w).map Rec.shown).take i), s.w = w := fun s hs => by
    obtain ⟨y, hy, rfl⟩ := List.mem_map.1 (List.mem_of_mem_take hs)
    obtain ⟨j, hj⟩ := List.getElem?_of_mem hy
    exact (hC.rcd _ _ _ hj).1
  have hlw : lastW (((C w).map Rec.shown).take i) w = ((((C w).map Rec.shown).take i)).getLast? := by
    unfold lastW
    rw [List.filter_eq_self.2 fun s hs => decide_eq_true (hall s hs)]
  have hv : validB x.shown = true := validB_iff.2 (r4.hold x.he)
  have hxw : x.shown.w = w := r1
  unfold verB
  rw [List.getElem?_map, hget]
  show (validB x.shown && contB x.shown (lastW _ x.shown.w)) = true
  rw [hv, hxw, hlw, Bool.true_and, List.getLast?_eq_getElem?, List.length_take, List.length_map, Nat.min_eq_left (by omega)]
  cases i with
  | zero => exact decide_eq_true (by show x.s.q = 1; omega)
  | succ i =>
    have hgi := List.getElem?_eq_getElem (show i < (C w).length by omega)
    generalize (C w)[i] = y at hgi
    rw [Nat.add_sub_cancel, List.getElem?_take_of_lt (by omega), List.getElem?_map, hgi]
    obtain ⟨q1, q2, _, _⟩ := hC.rcd _ _ _ hgi
    obtain ⟨l1, l2⟩ := hC.link _ _ _ _ hgi hget
    show (decide (x.s.q = y.s.q + 1) && (decide (y.s.d ≤ x.s.d) && decide (x.s.pv = sumP y.shown))) = true
    rw [decide_eq_true (show x.s.q = y.s.q + 1 by omega), decide_eq_true l1, decide_eq_true (show x.s.pv = sumP y.shown from l2)]; rfl
theorem good_verP {C : Lg} (hC : GoodC C) (w : Int) : verP ((C w).map Rec.shown) = -1 :=
  verP_all fun i hi => good_ver hC w i (by rw [List.length_map] at hi; exact hi)

/-- A chain with one record replaced. -/
theorem broken {C : Lg} (hC : GoodC C) (w : Int) {i : Nat} {x : Rec} (hx : (C w)[i]? = some x) (o : Snap) (ho : validB o = true) (how : o.w = w) (hoq : o.q = x.s.q) :
    sumP x.shown = sumP o ∨ verP (((C w).map Rec.shown).set i o) = i ∨ verP (((C w).map Rec.shown).set i o) = (i : Int) + 1 ∨ (verP (((C w).map Rec.shown).set i o) = -1 ∧ i + 1 = (C w).length) := by
  have hi := (List.getElem?_eq_some_iff.1 hx).1
  generalize hl : (C w).map Rec.shown = l
  have hll : l.length = (C w).length := by rw [← hl, List.length_map]
  have hgood : ∀ j < l.length, verB l j = true := fun j hj => by rw [← hl]; exact good_ver hC w j (by omega)
  have hlt : ∀ j < i, verB (l.set i o) j = true := fun j hj => by
    have h0 := hgood j (by omega)
    unfold verB at h0 ⊢
    rw [List.getElem?_set_ne (by omega), List.take_set_of_le (by omega)]
    exact h0
  cases hb : verB (l.set i o) i with
  | false => exact .inr (.inl (verP_at (by rw [List.length_set]; omega) hlt hb))
  | true =>
    have hle : ∀ j < i + 1, verB (l.set i o) j = true := fun j hj => by
      by_cases hji : j = i
      · rw [hji]; exact hb
      · exact hlt j (by omega)
    by_cases hlast : i + 1 = (C w).length
    · refine .inr (.inr (.inr ⟨verP_all fun j hj => hle j (by rw [List.length_set] at hj; omega), hlast⟩))
    · have hg2 := List.getElem?_eq_getElem (show i + 1 < (C w).length by omega)
      generalize (C w)[i + 1] = y at hg2
      obtain ⟨y1, y2, _, y4⟩ := hC.rcd _ _ _ hg2
      obtain ⟨_, l2⟩ := hC.link _ _ _ _ hx hg2
      by_cases he : sumP x.shown = sumP o
      · exact .inl he
      · refine .inr (.inr (.inl ?_))
        refine verP_at (k := i + 1) (by rw [List.length_set]; omega) hle ?_
        have hly : l[i + 1]? = some y.shown := by rw [← hl, List.getElem?_map, hg2]; rfl
        have hset : (l.set i o)[i]? = some o := List.getElem?_set_self (by omega)
        have hyw : y.shown.w = o.w := by rw [how]; exact y1
        unfold verB
        rw [List.getElem?_set_ne (by omega), hly]
        show (validB y.shown && contB y.shown (lastW ((l.set i o).take (i + 1)) y.shown.w)) = false
        rw [lastW_step hset, if_pos hyw]
        show (validB y.shown && (decide (y.s.q = o.q + 1) && (decide (o.d ≤ y.s.d) && decide (y.s.pv = sumP o)))) = false
        have e : decide (y.s.pv = sumP o) = false := decide_eq_false fun h => he (by rw [← h]; exact l2.symm)
        rw [e]; simp

/-- What Next returns is added, and is then the newest. -/
theorem next_ok {C : Lg} (hC : GoodC C) (hn : countC C < 4096) (w d : Int) (nm : Str) (gn sz fl bt : Int) {s : Snap} (h : nextL (lastC (C w)) w d nm gn sz fl bt = (s, 0)) :
    s.w = w ∧ s.d = d ∧ s.nm = nm ∧ s.gn = gn ∧ s.sz = sz ∧ s.fl = fl ∧ s.bt = bt ∧ s.hd = false ∧ s.q = ((C w).length : Int) + 1 ∧ Valid s ∧
      addC C s = (updC C w (C w ++ [⟨s, false, false⟩]), 0) ∧ latestC (updC C w (C w ++ [⟨s, false, false⟩])) w d = (s, 0) := by
  have hs : validB (nextS (lastC (C w)) w d nm gn sz fl bt) = true ∧ s = nextS (lastC (C w)) w d nm gn sz fl bt ∧ (∀ p, lastC (C w) = some p → ¬ d < p.d) := by
    unfold nextL at h
    by_cases hv : validB (nextS (lastC (C w)) w d nm gn sz fl bt) = true
    · rw [if_pos hv] at h
      cases hl : lastC (C w) with
      | none => rw [hl] at h hv; simp only [Prod.mk.injEq, and_true] at h; exact ⟨hv, h.symm, fun p hp => by cases hp⟩
      | some p =>
        rw [hl] at h hv
        by_cases hd : d < p.d
        · simp only [if_pos hd, Prod.mk.injEq] at h; omega
        · simp only [if_neg hd, Prod.mk.injEq, and_true] at h; exact ⟨hv, h.symm, fun p' hp => by cases hp; exact hd⟩
    · rw [if_neg hv] at h; simp only [Prod.mk.injEq] at h; omega
  obtain ⟨hv, rfl, hd⟩ := hs
  have hq : (nextS (lastC (C w)) w d nm gn sz fl bt).q = ((C w).length : Int) + 1 ∧ contB (nextS (lastC (C w)) w d nm gn sz fl bt) (lastC (C w)) = true := by
    cases hl : lastC (C w) with
    | none =>
      have h0 : (C w).length = 0 := by
        unfold lastC at hl
        rw [Option.map_eq_none_iff, List.getLast?_eq_none_iff] at hl
        rw [hl]; rfl
      rw [h0]; exact ⟨rfl, rfl⟩
    | some p =>
      have hdp := hd p hl
      unfold lastC at hl
      rw [List.getLast?_eq_getElem?] at hl
      obtain ⟨y, hy, rfl⟩ := Option.map_eq_some_iff.1 hl
      have h1 := (List.getElem?_eq_some_iff.1 hy).1
      have h2 := (hC.rcd _ _ _ hy).2.1
      refine ⟨by show y.s.q + 1 = _; omega, ?_⟩
      show (decide (y.s.q + 1 = y.s.q + 1) && (decide (y.s.d ≤ d) && decide (sumP y.s = sumP y.s))) = true
      rw [decide_eq_true rfl, decide_eq_true (show y.s.d ≤ d by omega), decide_eq_true rfl]; rfl
  have hf : ∀ o : Option Snap, (nextS o w d nm gn sz fl bt).w = w ∧ (nextS o w d nm gn sz fl bt).d = d ∧ (nextS o w d nm gn sz fl bt).nm = nm ∧ (nextS o w d nm gn sz fl bt).gn = gn ∧ (nextS o w d nm gn sz fl bt).sz = sz ∧ (nextS o w d nm gn sz fl bt).fl = fl ∧ (nextS o w d nm gn sz fl bt).bt = bt ∧ (nextS o w d nm gn sz fl bt).hd = false := fun o => by
    cases o <;> exact ⟨rfl, rfl, rfl, rfl, rfl, rfl, rfl, rfl⟩
  obtain ⟨f1, f2, f3, f4, f5, f6, f7, f8⟩ := hf (lastC (C w))
  generalize nextS (lastC (C w)) w d nm gn sz fl bt = s at *
  have hb : s.bare = s := Snap.ext' rfl rfl rfl rfl rfl rfl rfl rfl rfl f8.symm
  have hadd : addC C s = (updC C w (C w ++ [⟨s, false, false⟩]), 0) := by
    unfold addC
    rw [if_pos hv, f1, if_neg (by omega), if_neg (by omega), if_pos hq.2, if_neg (by omega), hb, f8]
  refine ⟨f1, f2, f3, f4, f5, f6, f7, f8, hq.1, validB_iff.1 hv, hadd, ?_⟩
  unfold latestC
  rw [updC_same, List.reverse_append]
  show (match List.find? _ (⟨s, false, false⟩ :: (C w).reverse) with
    | some x => (x.shown, (0 : Int))
    | .none => (Snap.zero, 4)) = _
  rw [List.find?_cons]
  have e : (!false && decide (s.d ≤ d)) = true := by rw [decide_eq_true (by omega)]; rfl
  show (match (match (!false && decide (s.d ≤ d)) with | true => some (⟨s, false, false⟩ : Rec) | false => _) with
    | some x => (x.shown, (0 : Int))
    | .none => (Snap.zero, 4)) = _
  rw [e]
  show ((⟨s, false, false⟩ : Rec).shown, (0 : Int)) = (s, 0)
  have : (⟨s, false, false⟩ : Rec).shown = s := Snap.ext' rfl rfl rfl rfl rfl rfl rfl rfl rfl f8.symm
  rw [this]

theorem next_err {C : Lg} (w d : Int) (nm : Str) (gn sz fl bt : Int) : (nextL (lastC (C w)) w d nm gn sz fl bt).2 = 0 ∨ ((nextL (lastC (C w)) w d nm gn sz fl bt).1 = Snap.zero ∧ ((nextL (lastC (C w)) w d nm gn sz fl bt).2 = 1 ∨ (nextL (lastC (C w)) w d nm gn sz fl bt).2 = 13)) := by
  unfold nextL
  split
  · cases lastC (C w) with
    | none => exact .inl rfl
    | some p =>
      show (if d < p.d then (Snap.zero, (13 : Int)) else _).2 = 0 ∨ _
      by_cases hd : d < p.d
      · right
        have e : (if d < p.d then (Snap.zero, (13 : Int)) else (nextS (some p) w d nm gn sz fl bt, 0)) = (Snap.zero, 13) := if_pos hd
        show (if d < p.d then (Snap.zero, (13 : Int)) else (nextS (some p) w d nm gn sz fl bt, 0)).1 = Snap.zero ∧ ((if d < p.d then (Snap.zero, (13 : Int)) else (nextS (some p) w d nm gn sz fl bt, 0)).2 = 1 ∨ (if d < p.d then (Snap.zero, (13 : Int)) else (nextS (some p) w d nm gn sz fl bt, 0)).2 = 13)
        rw [e]
        exact ⟨rfl, .inr rfl⟩
      · left
        have e : (if d < p.d then (Snap.zero, (13 : Int)) else (nextS (some p) w d nm gn sz fl bt, 0)) = (nextS (some p) w d nm gn sz fl bt, 0) := if_neg hd
        show (if d < p.d then (Snap.zero, (13 : Int)) else (nextS (some p) w d nm gn sz fl bt, 0)).2 = 0
        rw [e]
  · exact .inr ⟨rfl, .inl rfl⟩

end Go.Proofs.YtoddabjacjkjbaaDoor

namespace Go.Proofs.YtoddabjacjkjbaaDoor
open Go Go.RowKit
set_option linter.unusedVariables false

/-! ### the log of a list -/
def toRec (m : Mk) : Rec := ⟨m.s.bare, m.fo, m.s.hd⟩
def toC (ms : List Mk) : Lg := fun w => (ms.filter fun m => decide (m.s.w = w)).map toRec
theorem toRec_mk {x : Rec} (h : x.s.hd = false) : toRec x.mk' = x := by
  obtain ⟨s, fo, he⟩ := x
  have : (⟨s, fo, he⟩ : Rec).mk'.s.bare = s := Snap.ext' rfl rfl rfl rfl rfl rfl rfl rfl rfl (Eq.symm h)
  show (⟨(⟨s, fo, he⟩ : Rec).mk'.s.bare, fo, he⟩ : Rec) = _
  rw [this]
theorem toRec_mk' (m : Mk) : (toRec m).mk' = m := rfl
theorem toC_snoc (ms : List Mk) (m : Mk) : toC (ms ++ [m]) = updC (toC ms) m.s.w (toC ms m.s.w ++ [toRec m]) := by
  funext w
  unfold toC updC
  rw [List.filter_append]
  by_cases h : w = m.s.w
  · subst h
    simp
  · rw [if_neg h]
    have hd : decide (m.s.w = w) = false := decide_eq_false fun e => h e.symm
    simp [hd]
theorem filter_flat {C : Lg} (hC : GoodC C) (w : Int) : (flatC C).filter (fun m => decide (m.s.w = w)) = (C w).map Rec.mk' := by
  by_cases hw : 0 ≤ w ∧ w ≤ 11
  · obtain ⟨n, rfl⟩ := Int.eq_ofNat_of_zero_le hw.1
    have hn : n < 12 := by omega
    rw [flatC_split C hn, List.filter_append, List.filter_append]
    rw [List.filter_eq_nil_iff.2 (fun m hm => by have := flatN_lo hC m hm; simp; omega), (List.filter_eq_nil_iff (l := flatN C (n + 1) (11 - n))).2 (fun m hm => by have := flatN_hi hC m hm; simp; omega), List.filter_eq_self.2 (fun m hm => decide_eq_true (chain_mk hC m hm))]
    rw [List.nil_append, List.append_nil]
  · rw [hC.out w hw, List.filter_eq_nil_iff.2]
    · rfl
    · intro m hm
      obtain ⟨h1, h2, _⟩ := mem_flatC hC hm
      simp
      intro e; exact hw (by omega)
theorem map_toRec {C : Lg} (hC : GoodC C) (w : Int) : ((C w).map Rec.mk').map toRec = C w := by
  rw [List.map_map]
  conv => rhs; rw [← List.map_id (C w)]
  apply List.map_congr_left
  intro x hx
  obtain ⟨i, hi⟩ := List.getElem?_of_mem hx
  exact toRec_mk (hC.rcd _ _ _ hi).2.2.1
theorem toC_flat {C : Lg} (hC : GoodC C) : toC (flatC C) = C := by
  funext w
  unfold toC
  rw [filter_flat hC, map_toRec hC]
theorem toC_prefix {C : Lg} (hC : GoodC C) (i : Nat) (w : Int) : toC ((flatC C).take i) w <+: C w := by
  have h1 := filter_flat hC w
  have h2 : (flatC C).filter (fun m => decide (m.s.w = w)) = ((flatC C).take i).filter (fun m => decide (m.s.w = w)) ++ ((flatC C).drop i).filter (fun m => decide (m.s.w = w)) := by
    rw [← List.filter_append, List.take_append_drop]
  refine ⟨(((flatC C).drop i).filter (fun m => decide (m.s.w = w))).map toRec, ?_⟩
  unfold toC
  rw [← List.map_append, ← h2, h1, map_toRec hC]
theorem GoodC.cutBy {C D : Lg} (hC : GoodC C) (h : ∀ w, D w <+: C w) : GoodC D := by
  have hg : ∀ {w : Int} {i : Nat} {x : Rec}, (D w)[i]? = some x → (C w)[i]? = some x := fun {w i x} hx => by
    obtain ⟨t, ht⟩ := h w
    have hi := (List.getElem?_eq_some_iff.1 hx).1
    rw [← ht, List.getElem?_append_left hi]; exact hx
  refine ⟨fun w hw => ?_, fun w i x hx => hC.rcd w i x (hg hx), fun w i x y hx hy => hC.link w i x y (hg hx) (hg hy), fun w i x hx => hC.mark w i x (hg hx)⟩
  have := h w
  rw [hC.out w hw] at this
  exact List.prefix_nil.1 this
/-- The next record of the list is the next one of its writer. -/
theorem flat_next {C : Lg} (hC : GoodC C) {i : Nat} {m : Mk} (h : (flatC C)[i]? = some m) : (C m.s.w)[(toC ((flatC C).take i) m.s.w).length]? = some (toRec m) ∧ 0 ≤ m.s.w ∧ m.s.w ≤ 11 ∧ (m.fo = true → m.s.hd = false) := by
  have hi := (List.getElem?_eq_some_iff.1 h).1
  have hmem := List.mem_of_getElem? h
  obtain ⟨h1, h2, j, x, hx, hm, _⟩ := mem_flatC hC hmem
  have hdrop : (flatC C).drop i = m :: (flatC C).drop (i + 1) := by
    rw [List.drop_eq_getElem_cons hi]
    rw [List.getElem?_eq_getElem hi] at h
    cases h; rfl
  have h3 : (flatC C).filter (fun y => decide (y.s.w = m.s.w)) = ((flatC C).take i).filter (fun y => decide (y.s.w = m.s.w)) ++ (m :: ((flatC C).drop (i + 1)).filter (fun y => decide (y.s.w = m.s.w))) := by
    conv => lhs; rw [← List.take_append_drop i (flatC C), hdrop, List.filter_append, List.filter_cons_of_pos (by simp)]
  have h4 : C m.s.w = toC ((flatC C).take i) m.s.w ++ (toRec m :: (((flatC C).drop (i + 1)).filter (fun y => decide (y.s.w = m.s.w))).map toRec) := by
    rw [← map_toRec hC, ← filter_flat hC, h3, List.map_append]; rfl
  refine ⟨?_, h1, h2, ?_⟩
  · conv => lhs; rw [h4]
    rw [List.getElem?_append_right (Nat.le_refl _), Nat.sub_self]; rfl
  · intro hf
    have := hC.mark _ _ _ hx
    rw [hm] at hf ⊢
    exact this hf

/-! ### joins -/
def mrg1 (x y : Rec) : Rec := ⟨x.s, x.fo || y.fo, !(x.fo || y.fo) && (x.he || y.he)⟩
def mrgL : List Rec → List Rec → List Rec
  | [], b => b
  | x :: a, [] => x :: a
  | x :: a, y :: b => mrg1 x y :: mrgL a b
def agreeB : List Rec → List Rec → Bool
  | x :: a, y :: b => decide (x.s = y.s) && agreeB a b
  | _, _ => true
def mergeC (C D : Lg) : Lg := fun w => mrgL (C w) (D w)
def agreesB (C D : Lg) : Bool := (List.range 12).all fun w : Nat => agreeB (C w) (D w)
def mergeR (C D : Lg) : Lg × Int := if agreesB C D = true then (if 4096 < countC (mergeC C D) then (C, 7) else (mergeC C D, 0)) else (C, 13)

theorem mrgL_nil (a : List Rec) : mrgL a [] = a := by cases a <;> rfl
theorem mrgL_length : ∀ (a b : List Rec), (mrgL a b).length = max a.length b.length
  | [], b => by show b.length = max 0 b.length; omega
  | x :: a, [] => by show (x :: a).length = max (x :: a).length 0; omega
  | x :: a, y :: b => by show (mrgL a b).length + 1 = max (a.length + 1) (b.length + 1); rw [mrgL_length a b]; omega
theorem mrgL_get : ∀ (a b : List Rec) (i : Nat), (mrgL a b)[i]? = match a[i]?, b[i]? with
    | some x, some y => some (mrg1 x y)
    | some x, .none => some x
    | .none, o => o
  | [], b, i => by simp [mrgL]
  | x :: a, [], i => by rw [mrgL]; cases (x :: a)[i]? <;> simp
  | x :: a, y :: b, 0 => rfl
  | x :: a, y :: b, i + 1 => by
    show (mrg1 x y :: mrgL a b)[i + 1]? = _
    rw [List.getElem?_cons_succ, List.getElem?_cons_succ, List.getElem?_cons_succ]
    exact mrgL_get a b i
theorem agreeB_iff : ∀ {a b : List Rec}, agreeB a b = true ↔ ∀ (i : Nat) (x y : Rec), a[i]? = some x → b[i]? = some y → x.s = y.s
  | [], b => by simp [agreeB]
  | x :: a, [] => by simp [agreeB]
  | x :: a, y :: b => by
    rw [agreeB, Bool.and_eq_true, decide_eq_true_eq, agreeB_iff]
    constructor
    · rintro ⟨h1, h2⟩ i u v hu hv
      cases i with
      | zero =>
        have hu : some x = some u := hu
        have hv : some y = some v := hv
        cases hu; cases hv; exact h1
      | succ i => exact h2 i u v (by simpa using hu) (by simpa using hv)
    · intro h
      exact ⟨h 0 x y rfl rfl, fun i u v hu hv => h (i + 1) u v (by simpa using hu) (by simpa using hv)⟩
theorem agreesB_iff {C D : Lg} (hC : GoodC C) : agreesB C D = true ↔ ∀ w, agreeB (C w) (D w) = true := by
  unfold agreesB
  rw [List.all_eq_true]
  constructor
  · intro h w
    by_cases hw : 0 ≤ w ∧ w ≤ 11
    · obtain ⟨n, rfl⟩ := Int.eq_ofNat_of_zero_le hw.1
      exact h n (List.mem_range.2 (by omega))
    · rw [hC.out w hw]; rfl
  · intro h w _
    exact h w
theorem mrgL_snoc_old : ∀ {a b : List Rec} {x y : Rec}, a[b.length]? = some x → mrgL a (b ++ [y]) = (mrgL a b).set b.length (mrg1 x y)
  | [], b, x, y, h => by simp at h
  | u :: a, [], x, y, h => by
    have : u = x := by simpa using h
    subst this
    show mrg1 u y :: mrgL a [] = (u :: a).set 0 (mrg1 u y)
    rw [mrgL_nil]; rfl
  | u :: a, v :: b, x, y, h => by
    show mrg1 u v :: mrgL a (b ++ [y]) = (mrg1 u v :: mrgL a b).set (b.length + 1) (mrg1 x y)
    rw [mrgL_snoc_old (by simpa using h), List.set_cons_succ]
theorem mrgL_snoc_new : ∀ {a b : List Rec} {y : Rec}, a.length ≤ b.length → mrgL a (b ++ [y]) = mrgL a b ++ [y]
  | [], b, y, _ => rfl
  | u :: a, [], y, h => by simp at h
  | u :: a, v :: b, y, h => by
    show mrg1 u v :: mrgL a (b ++ [y]) = mrg1 u v :: (mrgL a b ++ [y])
    rw [mrgL_snoc_new (by simpa using h)]
theorem mrgL_comm : ∀ {a b : List Rec}, agreeB a b = true → mrgL a b = mrgL b a
  | [], b, _ => (mrgL_nil b).symm
  | x :: a, [], _ => rfl
  | x :: a, y :: b, h => by
    rw [agreeB, Bool.and_eq_true, decide_eq_true_eq] at h
    show mrg1 x y :: mrgL a b = mrg1 y x :: mrgL b a
    rw [mrgL_comm h.2]
    congr 1
    unfold mrg1
    rw [h.1, Bool.or_comm x.fo, Bool.or_comm x.he]
theorem agreeB_comm : ∀ {a b : List Rec}, agreeB a b = agreeB b a
  | [], [] => rfl
  | [], _ :: _ => rfl
  | _ :: _, [] => rfl
  | x :: a, y :: b => by
    show (decide (x.s = y.s) && agreeB a b) = (decide (y.s = x.s) && agreeB b a)
    rw [agreeB_comm (a := a), decide_eq_decide.2 ⟨Eq.symm, Eq.symm⟩]
theorem mrgL_self : ∀ {a : List Rec}, (∀ x ∈ a, x.fo = true → x.he = false) → mrgL a a = a
  | [], _ => rfl
  | x :: a, h => by
    show mrg1 x x :: mrgL a a = x :: a
    rw [mrgL_self fun y hy => h y (by simp [hy])]
    congr 1
    have := h x (by simp)
    obtain ⟨s, fo, he⟩ := x
    cases fo <;> cases he <;> first | rfl | (have h2 : true = false := this rfl; cases h2)
theorem agreeB_self : ∀ (a : List Rec), agreeB a a = true
  | [] => rfl
  | x :: a => by rw [agreeB, decide_eq_true rfl, agreeB_self a]; rfl
theorem mrgL_assoc : ∀ (a b c : List Rec), mrgL (mrgL a b) c = mrgL a (mrgL b c)
  | [], b, c => rfl
  | x :: a, [], c => rfl
  | x :: a, y :: b, [] => rfl
  | x :: a, y :: b, z :: c => by
    show mrg1 (mrg1 x y) z :: mrgL (mrgL a b) c = mrg1 x (mrg1 y z) :: mrgL a (mrgL b c)
    rw [mrgL_assoc a b c]
    congr 1
    obtain ⟨s, f1, h1⟩ := x
    obtain ⟨s2, f2, h2⟩ := y
    obtain ⟨s3, f3, h3⟩ := z
    cases f1 <;> cases f2 <;> cases f3 <;> cases h1 <;> cases h2 <;> cases h3 <;> rfl
theorem agree_left {a b c : List Rec} (hab : agreeB a b = true) (h : agreeB (mrgL a b) c = true) : agreeB b c = true := by
  rw [agreeB_iff] at *
  intro i y z hy hz
  cases hx : a[i]? with
  | none => exact h i y z (by rw [mrgL_get, hx, hy]) hz
  | some x => rw [← hab i x y hx hy]; exact h i (mrg1 x y) z (by rw [mrgL_get, hx, hy]) hz
theorem agree_both {a b c : List Rec} (hab : agreeB a b = true) (hbc : agreeB b c = true) : agreeB (mrgL a b) c = agreeB a (mrgL b c) := by
  rw [Bool.eq_iff_iff, agreeB_iff, agreeB_iff]
  rw [agreeB_iff] at hab hbc
  constructor
  · intro h i x z hx hz
    rw [mrgL_get] at hz
    cases hy : b[i]? with
    | some y =>
      rw [hy] at hz
      have e := hab i x y hx hy
      cases hc : c[i]? with
      | none => rw [hc] at hz; cases hz; exact e
      | some z' => rw [hc] at hz; cases hz; exact e
    | none =>
      rw [hy] at hz
      have hz : c[i]? = some z := hz
      exact h i x z (by rw [mrgL_get, hx, hy]) hz
  · intro h i x z hx hz
    rw [mrgL_get] at hx
    cases hy : b[i]? with
    | some y =>
      have e := hbc i y z hy hz
      cases ha : a[i]? with
      | none => rw [ha, hy] at hx; cases hx; exact e
      | some x' =>
        rw [ha, hy] at hx
        have hx : some (mrg1 x' y) = some x := hx
        rw [Option.some.injEq] at hx
        rw [← hx]
        show x'.s = z.s
        rw [hab i x' y ha hy]; exact e
    | none =>
      cases ha : a[i]? with
      | none => rw [ha, hy] at hx; cases hx
      | some x' =>
        rw [ha, hy] at hx
        have hx : some x' = some x := hx
        rw [Option.some.injEq] at hx
        rw [← hx]
        exact h i x' z ha (by rw [mrgL_get, hy]; exact hz)
theorem GoodC.merge {C D : Lg} (hC : GoodC C) (hD : GoodC D) (h : ∀ w, agreeB (C w) (D w) = true) : GoodC (mergeC C D) := by
  have hg : ∀ {w : Int} {i : Nat} {x : Rec}, (mergeC C D w)[i]? = some x → ((∃ y, (C w)[i]? = some y ∧ x.s = y.s) ∨ (∃ y, (D w)[i]? = some y ∧ x.s = y.s)) ∧ (x.fo = true → x.he = false) := fun {w i x} hx => by
    have hx : (mrgL (C w) (D w))[i]? = some x := hx
    rw [mrgL_get] at hx
    cases hc : (C w)[i]? with
    | none =>
      rw [hc] at hx
      exact ⟨.inr ⟨x, hx, rfl⟩, hD.mark _ _ _ hx⟩
    | some y =>
      cases hd : (D w)[i]? with
      | none => rw [hc, hd] at hx; cases hx; exact ⟨.inl ⟨_, rfl, rfl⟩, hC.mark _ _ _ hc⟩
      | some z =>
        rw [hc, hd] at hx; cases hx
        refine ⟨.inl ⟨_, rfl, rfl⟩, fun hf => ?_⟩
        have hf : (y.fo || z.fo) = true := hf
        show (!(y.fo || z.fo) && (y.he || z.he)) = false
        rw [hf]; rfl
  have hr : ∀ {w : Int} {i : Nat} {x : Rec}, (mergeC C D w)[i]? = some x → x.s.w = w ∧ x.s.q = (i : Int) + 1 ∧ x.s.hd = false ∧ Valid x.s := fun hx => by
    rcases (hg hx).1 with ⟨y, hy, e⟩ | ⟨y, hy, e⟩
    · rw [e]; exact hC.rcd _ _ _ hy
    · rw [e]; exact hD.rcd _ _ _ hy
  refine ⟨fun w hw => ?_, fun w i x hx => hr hx, fun w i x y hx hy => ?_, fun w i x hx => (hg hx).2⟩
  · show mrgL (C w) (D w) = []
    rw [hC.out w hw, hD.out w hw]; rfl
  · have hag := agreeB_iff.1 (h w)
    rcases (hg hy).1 with ⟨y', hy', e'⟩ | ⟨y', hy', e'⟩
    · have hlt := (List.getElem?_eq_some_iff.1 hy').1
      obtain ⟨x', hx'⟩ : ∃ x', (C w)[i]? = some x' := ⟨_, List.getElem?_eq_getElem (by omega)⟩
      have e : x.s = x'.s := by
        rcases (hg hx).1 with ⟨u, hu, e⟩ | ⟨u, hu, e⟩
        · rw [hx'] at hu; cases hu; exact e
        · rw [e]; exact (hag i x' u hx' hu).symm
      rw [e, e']; exact hC.link w i x' y' hx' hy'
    · have hlt := (List.getElem?_eq_some_iff.1 hy').1
      obtain ⟨x', hx'⟩ : ∃ x', (D w)[i]? = some x' := ⟨_, List.getElem?_eq_getElem (by omega)⟩
      have e : x.s = x'.s := by
        rcases (hg hx).1 with ⟨u, hu, e⟩ | ⟨u, hu, e⟩
        · rw [e]; exact hag i u x' hu hx'
        · rw [hx'] at hu; cases hu; exact e
      rw [e, e']; exact hD.link w i x' y' hx' hy'
theorem count_le_merge (C D : Lg) : countC (mergeC C D) ≤ countC C + countC D := by
  have h : ∀ w : Int, (mergeC C D w).length ≤ (C w).length + (D w).length := fun w => by
    show (mrgL (C w) (D w)).length ≤ _
    rw [mrgL_length]; omega
  rw [countC_eq, countC_eq, countC_eq]
  have := h 0; have := h 1; have := h 2; have := h 3; have := h 4; have := h 5; have := h 6; have := h 7; have := h 8; have := h 9; have := h 10; have := h 11
  omega

end Go.Proofs.YtoddabjacjkjbaaDoor
