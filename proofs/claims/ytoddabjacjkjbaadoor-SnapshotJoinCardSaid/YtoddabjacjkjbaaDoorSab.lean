/-
  Contracts: Retained, play, model, same, built.
-/
import Derived.Test.YtoddabjacjkjbaaDoorSaa
namespace Go.Proofs.YtoddabjacjkjbaaDoor
open Go Go.RowKit
set_option linter.unusedVariables false

/-! ### Retained -/
def retU (C : Lg) (w : Nat) : List Snap := (List.range w).flatMap fun w : Nat => ((C w).filter fun x => !x.fo).map Rec.shown
theorem retU_succ (C : Lg) (w : Nat) : retU C (w + 1) = retU C w ++ ((C w).filter fun x => !x.fo).map Rec.shown := by
  unfold retU
  rw [List.range_succ, List.flatMap_append]; simp
theorem retU_le (C : Lg) (w : Nat) (hw : w ≤ 12) : (retU C w).length ≤ countC C := by
  have h : retC C = retU C w ++ ((List.range (12 - w)).map (w + ·)).flatMap fun w : Nat => ((C w).filter fun x => !x.fo).map Rec.shown := by
    unfold retC retU
    rw [← List.flatMap_append, ← List.range_add]
    congr 2; omega
  have := retC_length C
  rw [h, List.length_append] at this
  omega
def retK (l : List Rec) (k : Nat) : List Snap := ((l.take k).filter fun x => !x.fo).map Rec.shown
theorem retK_step {l : List Rec} {k : Nat} {x : Rec} (h : l[k]? = some x) : retK l (k + 1) = retK l k ++ (if x.fo = true then [] else [x.shown]) := by
  unfold retK
  rw [List.take_add_one, h, List.filter_append, List.map_append]
  congr 1
  show List.map _ (List.filter _ [x]) = _
  rw [List.filter_cons]
  cases x.fo <;> rfl
theorem retK_le (l : List Rec) (k : Nat) : (retK l k).length ≤ l.length := by
  unfold retK
  rw [List.length_map]
  have h1 := List.length_filter_le (fun x : Rec => !x.fo) (l.take k)
  rw [List.length_take] at h1
  omega

/-! ### play -/
theorem rdOff {R : Rd} {h : Hp} (i : Nat) {g o n : Nat} {t : TypeId} {cs vs : List Value} (hi : h[i]? = some (.blk g t cs)) (hv : vs = (cs.drop o).take n) : ∀ j u, vs[j]? = some u → RH R h ((⟨g, o, .none⟩ : Addr).add j) u := by
  intro j u hu
  have hj := (List.getElem?_eq_some_iff.1 hu).1
  subst hv
  rw [List.length_take] at hj
  rw [List.getElem?_take_of_lt (by omega), List.getElem?_drop] at hu
  have e : (⟨g, o, .none⟩ : Addr).add j = ⟨g, o + j, .none⟩ := by rw [addA_eq]; cases j <;> rfl
  rw [e]
  exact ld i hi hu
theorem Snap.Ok.hold {s : Snap} (h : s.Ok) (b : Bool) : ({ s with hd := b } : Snap).Ok := ⟨h.w1, h.w2, h.q1, h.q2, h.d1, h.d2, h.nm, h.gn1, h.gn2, h.sz1, h.sz2, h.fl1, h.fl2, h.bt1, h.bt2, h.pv⟩
theorem stepC0 {C : Lg} {x : SOp} (h : x.k = 0) : stepC C x = if (nextL (lastC (C x.w)) x.w x.d x.s.nm x.s.gn x.s.sz x.s.fl x.s.bt).2 = 0 then
      ((addC C { (nextL (lastC (C x.w)) x.w x.d x.s.nm x.s.gn x.s.sz x.s.fl x.s.bt).1 with hd := x.b }).1, { (nextL (lastC (C x.w)) x.w x.d x.s.nm x.s.gn x.s.sz x.s.fl x.s.bt).1 with hd := x.b }, (addC C { (nextL (lastC (C x.w)) x.w x.d x.s.nm x.s.gn x.s.sz x.s.fl x.s.bt).1 with hd := x.b }).2)
    else (C, (nextL (lastC (C x.w)) x.w x.d x.s.nm x.s.gn x.s.sz x.s.fl x.s.bt).1, (nextL (lastC (C x.w)) x.w x.d x.s.nm x.s.gn x.s.sz x.s.fl x.s.bt).2) := if_pos h
theorem stepC1 {C : Lg} {x : SOp} (h : x.k = 1) : stepC C x = ((addC C x.s).1, Snap.zero, (addC C x.s).2) := by
  unfold stepC; rw [if_neg (by omega), if_pos h]
theorem stepC2 {C : Lg} {x : SOp} (h : x.k = 2) : stepC C x = ((forgetC C x.w x.q).1, Snap.zero, (forgetC C x.w x.q).2) := by
  unfold stepC; rw [if_neg (by omega), if_neg (by omega), if_pos h]
theorem stepC3 {C : Lg} {x : SOp} (h : x.k = 3) : stepC C x = ((holdC C x.w x.q x.b).1, Snap.zero, (holdC C x.w x.q x.b).2) := by
  unfold stepC; rw [if_neg (by omega), if_neg (by omega), if_neg (by omega), if_pos h]
theorem stepC4 {C : Lg} {x : SOp} (h0 : ¬ x.k = 0) (h1 : ¬ x.k = 1) (h2 : ¬ x.k = 2) (h3 : ¬ x.k = 3) : stepC C x = (C, (latestC C x.w x.d).1, (latestC C x.w x.d).2) := by
  unfold stepC; rw [if_neg h0, if_neg h1, if_neg h2, if_neg h3]
theorem next_valid {C : Lg} {w d : Int} {nm : Str} {gn sz fl bt : Int} (h : (nextL (lastC (C w)) w d nm gn sz fl bt).2 = 0) : Valid (nextL (lastC (C w)) w d nm gn sz fl bt).1 := by
  unfold nextL at h ⊢
  by_cases hv : validB (nextS (lastC (C w)) w d nm gn sz fl bt) = true
  · rw [if_pos hv] at h ⊢
    cases hl : lastC (C w) with
    | none => rw [hl] at hv; exact validB_iff.1 hv
    | some p =>
      rw [hl] at hv h
      by_cases hd : d < p.d
      · simp only [if_pos hd] at h; omega
      · simp only [if_neg hd]; exact validB_iff.1 hv
  · rw [if_neg hv] at h; cases h

set_option maxRecDepth 100000 in
set_option maxHeartbeats 8000000 in
theorem play_ok (R : Rd) (hG : ShaG R) {g : Nat} {C : Lg} {h : Hp} (hL : LogIs g C h) (hC : GoodC C) (hn : countC C ≤ 100000) (x : SOp) (hx : x.s.Ok) :
    Fn Tryd.prog 84 [.pointer (some ⟨g, 0, .none⟩), .agg ⟨x.cells⟩] h R (fun v h' => v = .tuple ⟨[.agg ⟨(stepC C x).2.1.cells⟩, .int .i64 (stepC C x).2.2]⟩ ∧ LogIs g (stepC C x).1 h') := by
  obtain ⟨r, st, c, hok, hch, rfl⟩ := hL
  refine fn_of_vc mixed tabOk Tryd.func84 rfl (by kernel_rfl) (Nat.le_of_ble_eq_true rfl) ?_
  intro g3
  intro g4
  refine ⟨_, ld 3 rfl rfl, ?_⟩
  by_cases h0 : x.k = 0
  · rw [stepC0 h0]
    repeat (first | (refine ⟨fun h => ?_, fun h => ?_⟩; rotate_left 1; (focus (exfalso; (first | (with_reducible (cases h; done)) | (revert h; simp; done) | (revert h; simp; omega) | (revert h; simp [*]; done)))); clear h) | (refine ⟨fun h => ?_, fun h => ?_⟩; (focus (exfalso; (first | (with_reducible (cases h; done)) | (revert h; simp; done) | (revert h; simp; omega) | (revert h; simp [*]; done)))); clear h))
    refine ⟨_, ld 3 rfl rfl, ?_⟩
    refine ⟨_, ld 3 rfl rfl, ?_⟩
    refine ⟨[.string ⟨⟨x.s.nm⟩⟩, .int .i64 x.s.gn, .int .i64 x.s.sz], rdOff (cs := x.cells) (o := 4) (n := 3) 3 rfl rfl, rfl, ?_⟩
    refine ⟨_, ld 3 rfl rfl, ?_⟩
    refine ⟨_, ld 3 rfl rfl, ?_⟩
    refine ⟨[0, 0, 0], _, Next_okL _ (hG.rh _) ⟨r, st, c, hok, hch, rfl⟩ hC (by omega) x.w x.d x.s.nm x.s.gn x.s.sz x.s.fl x.s.bt, ?_⟩
    have hnv := next_valid (C := C) (w := x.w) (d := x.d) (nm := x.s.nm) (gn := x.s.gn) (sz := x.s.sz) (fl := x.s.fl) (bt := x.s.bt)
    generalize nextL (lastC (C x.w)) x.w x.d x.s.nm x.s.gn x.s.sz x.s.fl x.s.bt = y at *
    obtain ⟨s, e⟩ := y
    clear hok hch
    rintro _ _ ⟨rfl, r, st, c, hok, hch, rfl⟩
    intro g6
    refine ⟨rfl, rfl, 5, rfl, rfl, Nat.le_of_ble_eq_true rfl, ?_⟩
    by_cases he : e = 0
    case neg =>
      rw [if_neg he]
      repeat (first | (refine ⟨fun h => ?_, fun h => ?_⟩; rotate_left 1; (focus (exfalso; (first | (with_reducible (cases h; done)) | (revert h; simp; done) | (revert h; simp; omega) | (revert h; simp [*]; done)))); clear h) | (refine ⟨fun h => ?_, fun h => ?_⟩; (focus (exfalso; (first | (with_reducible (cases h; done)) | (revert h; simp; done) | (revert h; simp; omega) | (revert h; simp [*]; done)))); clear h))
      refine ⟨s.cells, rdBlk 5 rfl, rfl, ?_⟩
      refine ⟨rfl, rfl, 1, rfl, rfl, Nat.le_of_ble_eq_true rfl, ?_⟩
      refine ⟨s.cells, rdBlk 1 rfl, rfl, ?_⟩
      exact ⟨logH g r st c, Ent.pick [2, 2, 2] rfl, rfl, r, st, c, hok, hch, rfl⟩
    rw [if_pos he]
    repeat (first | (refine ⟨fun h => ?_, fun h => ?_⟩; rotate_left 1; (focus (exfalso; (first | (with_reducible (cases h; done)) | (revert h; simp; done) | (revert h; simp; omega) | (revert h; simp [*]; done)))); clear h) | (refine ⟨fun h => ?_, fun h => ?_⟩; (focus (exfalso; (first | (with_reducible (cases h; done)) | (revert h; simp; done) | (revert h; simp; omega) | (revert h; simp [*]; done)))); clear h))
    refine ⟨_, ld 0 rfl rfl, ?_⟩
    refine ⟨rfl, rfl, 5, rfl, rfl, Nat.le_of_ble_eq_true rfl, ?_⟩
    have hs2 : ({ s with hd := x.b } : Snap).Ok := (hnv he).ok.hold x.b
    refine ⟨[5], (.q 0 (.q 1 (.q 2 (.one 3 (.one 4 (.q 5 .nil)))))), by kernel_rfl, ?_⟩
    refine ⟨({ s with hd := x.b } : Snap).cells, rdBlk 0 rfl, rfl, ?_⟩
    refine ⟨({ s with hd := x.b } : Snap).cells, rdBlk 0 rfl, rfl, ?_⟩
    refine ⟨[2, 2, 2], _, Add_ok _ ((hG.rh _).rh _) ⟨r, st, c, hok, hch, rfl⟩ hC (by omega) { s with hd := x.b } hs2, ?_⟩
    clear hok hch
    rintro _ _ ⟨rfl, r, st, c, hok, hch, rfl⟩
    refine ⟨rfl, rfl, 1, rfl, rfl, Nat.le_of_ble_eq_true rfl, ?_⟩
    refine ⟨({ s with hd := x.b } : Snap).cells, rdBlk 2 rfl, rfl, ?_⟩
    exact ⟨logH g r st c, Ent.pick [3, 3, 3] rfl, rfl, r, st, c, hok, hch, rfl⟩
  by_cases h1 : x.k = 1
  · rw [stepC1 h1]
    repeat (first | (refine ⟨fun h => ?_, fun h => ?_⟩; rotate_left 1; (focus (exfalso; (first | (with_reducible (cases h; done)) | (revert h; simp; done) | (revert h; simp; omega) | (revert h; simp [*]; done)))); clear h) | (refine ⟨fun h => ?_, fun h => ?_⟩; (focus (exfalso; (first | (with_reducible (cases h; done)) | (revert h; simp; done) | (revert h; simp; omega) | (revert h; simp [*]; done)))); clear h))
    refine ⟨x.s.cells, rdOff (cs := x.cells) (o := 1) (n := 10) 3 rfl rfl, rfl, ?_⟩
    refine ⟨[0, 0, 0], _, Add_ok _ (hG.rh _) ⟨r, st, c, hok, hch, rfl⟩ hC (by omega) x.s hx, ?_⟩
    clear hok hch
    rintro _ _ ⟨rfl, r, st, c, hok, hch, rfl⟩
    refine ⟨rfl, rfl, 1, rfl, rfl, Nat.le_of_ble_eq_true rfl, ?_⟩
    refine ⟨Snap.zero.cells, rdBlk 1 rfl, rfl, ?_⟩
    exact ⟨logH g r st c, Ent.pick [2, 2, 2] rfl, rfl, r, st, c, hok, hch, rfl⟩
  by_cases h2 : x.k = 2
  · rw [stepC2 h2]
    repeat (first | (refine ⟨fun h => ?_, fun h => ?_⟩; rotate_left 1; (focus (exfalso; (first | (with_reducible (cases h; done)) | (revert h; simp; done) | (revert h; simp; omega) | (revert h; simp [*]; done)))); clear h) | (refine ⟨fun h => ?_, fun h => ?_⟩; (focus (exfalso; (first | (with_reducible (cases h; done)) | (revert h; simp; done) | (revert h; simp; omega) | (revert h; simp [*]; done)))); clear h))
    refine ⟨_, ld 3 rfl rfl, ?_⟩
    refine ⟨_, ld 3 rfl rfl, ?_⟩
    refine ⟨[0, 0, 0], _, Forget_ok _ ⟨r, st, c, hok, hch, rfl⟩ hC (by omega) x.w x.q, ?_⟩
    clear hok hch
    rintro _ _ ⟨rfl, r, st, c, hok, hch, rfl⟩
    refine ⟨rfl, rfl, 1, rfl, rfl, Nat.le_of_ble_eq_true rfl, ?_⟩
    refine ⟨Snap.zero.cells, rdBlk 1 rfl, rfl, ?_⟩
    exact ⟨logH g r st c, Ent.pick [2, 2, 2] rfl, rfl, r, st, c, hok, hch, rfl⟩
  by_cases h3 : x.k = 3
  · rw [stepC3 h3]
    repeat (first | (refine ⟨fun h => ?_, fun h => ?_⟩; rotate_left 1; (focus (exfalso; (first | (with_reducible (cases h; done)) | (revert h; simp; done) | (revert h; simp; omega) | (revert h; simp [*]; done)))); clear h) | (refine ⟨fun h => ?_, fun h => ?_⟩; (focus (exfalso; (first | (with_reducible (cases h; done)) | (revert h; simp; done) | (revert h; simp; omega) | (revert h; simp [*]; done)))); clear h))
    refine ⟨_, ld 3 rfl rfl, ?_⟩
    refine ⟨_, ld 3 rfl rfl, ?_⟩
    refine ⟨_, ld 3 rfl rfl, ?_⟩
    refine ⟨[0, 0, 0], _, Hold_ok _ ⟨r, st, c, hok, hch, rfl⟩ hC (by omega) x.w x.q x.b, ?_⟩
    clear hok hch
    rintro _ _ ⟨rfl, r, st, c, hok, hch, rfl⟩
    refine ⟨rfl, rfl, 1, rfl, rfl, Nat.le_of_ble_eq_true rfl, ?_⟩
    refine ⟨Snap.zero.cells, rdBlk 1 rfl, rfl, ?_⟩
    exact ⟨logH g r st c, Ent.pick [2, 2, 2] rfl, rfl, r, st, c, hok, hch, rfl⟩
  rw [stepC4 h0 h1 h2 h3]
  repeat (first | (refine ⟨fun h => ?_, fun h => ?_⟩; rotate_left 1; (focus (exfalso; (first | (with_reducible (cases h; done)) | (revert h; simp; done) | (revert h; simp; omega) | (revert h; simp [*]; done)))); clear h) | (refine ⟨fun h => ?_, fun h => ?_⟩; (focus (exfalso; (first | (with_reducible (cases h; done)) | (revert h; simp; done) | (revert h; simp; omega) | (revert h; simp [*]; done)))); clear h))
  refine ⟨_, ld 3 rfl rfl, ?_⟩
  refine ⟨_, ld 3 rfl rfl, ?_⟩
  refine ⟨[0, 0, 0], _, Latest_okL _ ⟨r, st, c, hok, hch, rfl⟩ hC (by omega) x.w x.d, ?_⟩
  clear hok hch
  rintro _ _ ⟨rfl, r, st, c, hok, hch, rfl⟩
  refine ⟨rfl, rfl, 1, rfl, rfl, Nat.le_of_ble_eq_true rfl, ?_⟩
  refine ⟨(latestC C x.w x.d).1.cells, rdBlk 1 rfl, rfl, ?_⟩
  exact ⟨logH g r st c, Ent.pick [2, 2, 2] rfl, rfl, r, st, c, hok, hch, rfl⟩

end Go.Proofs.YtoddabjacjkjbaaDoor
