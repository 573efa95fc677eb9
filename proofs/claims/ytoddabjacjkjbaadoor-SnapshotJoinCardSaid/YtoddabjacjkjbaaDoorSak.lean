/-
  Contract: Merge of two logs.
-/
import Derived.Test.YtoddabjacjkjbaaDoorSaj
namespace Go.Proofs.YtoddabjacjkjbaaDoor
open Go Go.RowKit
set_option linter.unusedVariables false

theorem fn_rows {P : Program} {f : FuncId} {args : List Value} {h : Hp} {R : Rd} {Post : Value → Hp → Prop} (i : Nat) {l : List RowD} (hi : h[i]? = some (.rows l)) (hc : Callable P f) (hF : (∀ r ∈ l, r.n ≤ r.cap) → Fn P f args h R Post) : Fn P f args h R Post :=
  fn_pure hc (fun _ o r hr => ((o.all _ (List.mem_of_getElem? hi)) r hr).2.1) hF
theorem merged_okC (R : Rd) {A B : Option Addr} {capA capB : Nat} {a b : List Rec} (ha : RcR R A capA a) (hb : RcR R B capB b) (hca : a.length ≤ capA) (hcb : b.length ≤ capB) (hna : a.length ≤ 1000000) (hnb : b.length ≤ 1000000) :
    Fn Tryd.prog 88 [.slice A a.length capA, .slice B b.length capB] [] R (fun v h => ∃ A' cap', grow (mrgL a b).length A' ∧ (mrgL a b).length ≤ cap' ∧ v = .slice A' (mrgL a b).length cap' ∧ h = [.row A' (mrgL a b).length cap' 164 12 (recs (mrgL a b)) (0, 0)]) :=
  (merged_ok R ha hb hca hcb hna hnb).post fun _ _ _ ⟨A', cap', hg, hv, hh⟩ o => ⟨A', cap', hg, (row_cap (by rw [hh] at o; exact o) 0 rfl).1, hv, hh⟩

theorem row_read {R : Rd} {h : Hp} (j : Nat) {st : List WR} {c : Nat} (hok : LogOk st c) (hj : h[j]? = some (.rows (rowsOf st))) {x : WR} (hx : x ∈ st) : RcR (RH R h) x.A x.cap x.l := by
  refine ⟨recs_length _, x.A, x.cap, rfl, fun k u hu => ?_⟩
  have hk := (List.getElem?_eq_some_iff.1 hu).1
  have hl := recs_length x.l
  obtain ⟨q, hq⟩ := growA (hok.gr x hx) (by omega)
  refine ⟨⟨q, 0, .none⟩, hq, ?_⟩
  rw [add_zero_addr]
  refine ldrows j hj (List.mem_map.2 ⟨x, hx, rfl⟩) ?_
  show rowCell x.A (recs x.l) _ _
  rw [hq]
  exact ⟨rfl, rfl, hu⟩
/-- What a look-up of a writer finds, wherever the rows lie. -/
theorem found_sl {st : List WR} {c : Nat} (hok : LogOk st c) (hcap : ∀ x ∈ st, x.l.length ≤ x.cap) {n : Int} {v : Value} {b : Bool} (hf : foundE (.int .i64 n) (entsOf st) (.slice .none 0 0) v b) {l : List Rec} (hl : chainOf st n = l) :
    ∃ A cap, v = .slice A l.length cap ∧ l.length ≤ cap ∧ ∀ (R : Rd) (h : Hp) (j : Nat), h[j]? = some (.rows (rowsOf st)) → RcR (RH R h) A cap l := by
  subst hl
  by_cases hx : ∃ x ∈ st, x.w = n
  · obtain ⟨a, x, e, rfl, hw, ha⟩ := wr_split hx
    rcases hf with ⟨j, hf, _⟩ | ⟨hf, _⟩
    · rw [findE_mid hw ha] at hf
      simp only [Option.some.injEq, Prod.mk.injEq] at hf
      rw [chainOf_mid hw ha, ← hf.2]
      exact ⟨_, _, rfl, hcap x (by simp), fun R h j hj => row_read j hok hj (by simp)⟩
    · rw [findE_mid hw ha] at hf; cases hf
  · have hx' : ∀ x ∈ st, x.w ≠ n := fun x hm e => hx ⟨x, hm, e⟩
    rcases hf with ⟨j, hf, _⟩ | ⟨_, rfl, _⟩
    · rw [findE_none hx'] at hf; cases hf
    · rw [chainOf_none hx']
      exact ⟨_, _, rfl, Nat.le_refl _, fun R h j hj => ⟨rfl, .none, 0, rfl, fun j u hu => by simp [recs] at hu⟩⟩

theorem agreeB_take : ∀ (a b : List Rec), agreeB (a.take (min a.length b.length)) (b.take (min a.length b.length)) = agreeB a b
  | [], b => by simp [agreeB]
  | x :: a, [] => by simp [agreeB]
  | x :: a, y :: b => by
    have e : min (x :: a).length (y :: b).length = min a.length b.length + 1 := by simp only [List.length_cons]; omega
    rw [e]
    show (decide (x.s = y.s) && agreeB (a.take (min a.length b.length)) (b.take (min a.length b.length))) = (decide (x.s = y.s) && agreeB a b)
    rw [agreeB_take a b]
theorem Equal_pre (R : Rd) {A B : Option Addr} {capA capB c : Nat} {a b : List Rec} (ha : RcR R A capA a) (hb : RcR R B capB b) (hca : a.length ≤ capA) (hcb : b.length ≤ capB) (hc : c = min a.length b.length) (hn : a.length ≤ 1000000) :
    Fn Tryd.prog 86 [.slice (sliceBase A capA 0 12) (c - 0) (capA - 0), .slice (sliceBase B capB 0 12) (c - 0) (capB - 0), .func (.func 87) #[] #[]] [] R (fun v h => v = .bool (agreeB a b) ∧ h = []) := by
  have h1 := SlR.pre (c := Rec.cells) (fun _ => rfl) (by omega) ha (show c ≤ a.length by omega) hca
  have h2 := SlR.pre (c := Rec.cells) (fun _ => rfl) (by omega) hb (show c ≤ b.length by omega) hcb
  have l1 : (a.take c).length = c - 0 := by rw [List.length_take]; omega
  have l2 : (b.take c).length = c - 0 := by rw [List.length_take]; omega
  rw [← l1] at h1
  rw [← l2] at h2
  have := EqualFunc_ok R (A := sliceBase A capA 0 12) (B := sliceBase B capB 0 12) (capA := capA - 0) (capB := capB - 0) (a := a.take c) (b := b.take c) h1 h2 (by rw [l1, l2]) (by omega)
  rw [l1, l2, hc, agreeB_take] at this
  rw [hc]
  exact this

/-! ### the number of records of a join -/
def mcount (C D : Lg) (w : Nat) : Nat := ((List.range w).map fun v : Nat => max (C v).length (D v).length).sum
theorem mcount_succ (C D : Lg) (w : Nat) : mcount C D (w + 1) = mcount C D w + max (C w).length (D w).length := by
  unfold mcount
  rw [List.range_succ, List.map_append, List.sum_append]
  simp
theorem mcount_all (C D : Lg) : mcount C D 12 = countC (mergeC C D) := by
  unfold mcount countC mergeC
  congr 1
  apply List.map_congr_left
  intro w _
  rw [mrgL_length]
theorem mcount_le (C D : Lg) : ∀ w, w ≤ 12 → mcount C D w ≤ countC (mergeC C D) := fun w hw => by
  rw [← mcount_all]
  have h : ∀ k, mcount C D w ≤ mcount C D (w + k) := fun k => by
    induction k with
    | zero => exact Nat.le_refl _
    | succ k ih => rw [← Nat.add_assoc, mcount_succ]; omega
  have := h (12 - w)
  rw [show w + (12 - w) = 12 by omega] at this
  exact this
theorem mcount0 (C D : Lg) : mcount C D 0 = 0 := rfl

/-! ### rows -/
theorem rows_swap (p q : List WR) (x : WR) (A : Option Addr) (cap : Nat) (l : List Rec) : Ent [.rows (rowsOf (p ++ x :: q)), ({ x with A := A, cap := cap, l := l } : WR).row.ha] [.rows (rowsOf (p ++ { x with A := A, cap := cap, l := l } :: q))] := by
  rw [rowsOf_mid, rowsOf_mid]
  refine ((Ent.app (Ent.rows_out (rowsOf p) (rowsOf q) x.row) (Ent.refl [_])).trans (Ent.pick [2, 1] rfl)).trans ?_
  exact Ent.rows_in (rowsOf p) (rowsOf q) _
theorem rows_add (st : List WR) (x : WR) : Ent [.rows (rowsOf st), x.row.ha] [.rows (rowsOf (st ++ [x]))] := by
  have := Ent.rows_in (rowsOf st) [] x.row
  rw [List.append_nil] at this
  rw [rowsOf_app]
  exact Ent.trans (b := [x.row.ha, .rows (rowsOf st)]) (Ent.pick [1, 0] rfl) this

set_option maxRecDepth 100000 in
set_option maxHeartbeats 8000000 in
theorem Merge_ok (R : Rd) {g1 g2 : Nat} {C D : Lg} {h1 h2 : Hp} (hL1 : LogIs g1 C h1) (hL2 : LogIs g2 D h2) (hC : GoodC C) (hD : GoodC D) (hn : countC C ≤ 100000) (hm : countC D ≤ 100000) :
    Fn Tryd.prog 33 [.pointer (some ⟨g1, 0, .none⟩), .pointer (some ⟨g2, 0, .none⟩)] (h1 ++ h2) R (fun v h' => v = .int .i64 (mergeR C D).2 ∧ ∃ h1' h2', h' = h1' ++ h2' ∧ LogIs g1 (mergeR C D).1 h1' ∧ LogIs g2 D h2') := by
  obtain ⟨r1, st1, c1, hok1, hcC, rfl⟩ := hL1
  obtain ⟨r2, st2, c2, hok2, hcD, rfl⟩ := hL2
  have hcount := count_le_merge C D
  refine fn_rows 2 rfl (callable Tryd.func33 rfl (by kernel_rfl)) fun hcp1 => fn_rows 5 rfl (callable Tryd.func33 rfl (by kernel_rfl)) fun hcp2 => ?_
  have hcap1 : ∀ x ∈ st1, x.l.length ≤ x.cap := fun x hx => hcp1 x.row (List.mem_map.2 ⟨x, hx, rfl⟩)
  have hcap2 : ∀ x ∈ st2, x.l.length ≤ x.cap := fun x hx => hcp2 x.row (List.mem_map.2 ⟨x, hx, rfl⟩)
  clear hcp1 hcp2
  show Fn _ _ _ [.blk g1 161 [.map (some r1)], logM r1 st1 c1, .rows (rowsOf st1), .blk g2 161 [.map (some r2)], logM r2 st2 c2, .rows (rowsOf st2)] _ _
  refine fn_of_vc mixed tabOk Tryd.func33 rfl (by kernel_rfl) (Nat.le_of_ble_eq_true rfl) ?_
  refine ⟨[none, none, none, none, some 4, some 5, some 6, some 7, some 8, some 9, none, none, some 12, some 13, some 14, some 15, some 16, some 17, some 18, some 19, some 20, some 21, some 22, some 23, some 24, some 25, some 26, some 27, some 28, some 29, some 30, some 31, some 32, some 33, some 34, some 35, some 36, some 37, some 38, some 39, some 40, some 41, some 42, some 43, some 44, some 45, some 46, some 47], [5, 12], Nat, fun w => w ≤ 12 ∧ ∀ v : Nat, v < w → agreeB (C v) (D v) = true, fun w => [.int .i64 (mcount C D w), .int .i64 w],
    fun w => [.blk g1 161 [.map (some r1)], logM r1 st1 c1, .rows (rowsOf st1), .blk g2 161 [.map (some r2)], logM r2 st2 c2, .rows (rowsOf st2)], fun w => 12 - w, 0, ⟨Nat.zero_le _, fun v hv => by omega⟩, ⟨rfl, rfl, trivial⟩, Ent.refl _, ?_⟩
  rintro w ⟨hw, hall⟩ js
  have hmw := mcount_le C D w hw
  refine ⟨fun hb0 => ?_, fun hb0 => ?_⟩
  · have hb1 := of_decide_eq_true hb0
    have hw12 : w < 12 := by omega
    clear hb0 hb1
    have hlC := len_le_count hC.out w
    have hlD := len_le_count hD.out w
    refine ⟨[0,2], (.q 0 (.q 1 (.q 2 (.q 3 (.q 4 (.q 6 (.q 7 (.q 8 (.q 9 (.q 10 (.two 5 (.q 12 (.one 11 (.q 13 .nil))) 11 (.one 5 (.q 12 (.q 13 .nil)))))))))))))), by kernel_rfl, ?_⟩
    refine ⟨_, ld 0 rfl rfl, ?_⟩
    refine ⟨_, ld 1 rfl rfl, ?_⟩
    refine ⟨?_, ?_⟩
    · refine ⟨0, rfl, like_ents _ _, ?_⟩
      rintro v b hf
      obtain ⟨A, cA, rfl, hcA, hrA⟩ := found_sl hok1 hcap1 hf (hcC (w : Int))
      clear hf
      refine ⟨2, rfl, like_ents _ _, ?_⟩
      rintro v b hf
      obtain ⟨B, cB, rfl, hcB, hrB⟩ := found_sl hok2 hcap2 hf (hcD (w : Int))
      clear hf
      obtain ⟨n, hn1⟩ : ∃ n, n = min (C w).length (D w).length := ⟨_, rfl⟩
      intro z hz; obtain rfl : z = (n : Int) := by omega
      clear hz
      refine ⟨[], (.q 0 (.q 1 (.q 2 (.q 3 (.q 4 (.q 5 (.one 6 (.q 7 .nil)))))))), by kernel_rfl, ?_⟩
      refine ⟨0, n, rfl, rfl, Nat.zero_le _, by omega, ?_⟩
      refine ⟨0, n, rfl, rfl, Nat.zero_le _, by omega, ?_⟩
      refine ⟨[], _, Equal_pre _ (hrA _ _ 3 rfl) (hrB _ _ 5 rfl) hcA hcB hn1 (by omega), ?_⟩
      rintro _ _ ⟨rfl, rfl⟩
      cases hag : agreeB (C w) (D w)
      · have hmr : mergeR C D = (C, 13) := by
          unfold mergeR
          have : ¬ agreesB C D = true := fun h => by have := (agreesB_iff hC).1 h w; rw [hag] at this; cases this
          rw [if_neg this]
        rw [hmr]
        repeat (first | (refine ⟨fun h => ?_, fun h => ?_⟩; rotate_left 1; (focus (exfalso; (first | (with_reducible (cases h; done)) | (revert h; simp; done) | (revert h; simp; omega) | (revert h; simp [*]; done)))); clear h) | (refine ⟨fun h => ?_, fun h => ?_⟩; (focus (exfalso; (first | (with_reducible (cases h; done)) | (revert h; simp; done) | (revert h; simp; omega) | (revert h; simp [*]; done)))); clear h))
        exact ⟨_, Ent.pick [0, 1, 1, 0, 0, 0] rfl, rfl, logH g1 r1 st1 c1, logH g2 r2 st2 c2, rfl, ⟨r1, st1, c1, hok1, hcC, rfl⟩, ⟨r2, st2, c2, hok2, hcD, rfl⟩⟩
      · repeat (first | (refine ⟨fun h => ?_, fun h => ?_⟩; rotate_left 1; (focus (exfalso; (first | (with_reducible (cases h; done)) | (revert h; simp; done) | (revert h; simp; omega) | (revert h; simp [*]; done)))); clear h) | (refine ⟨fun h => ?_, fun h => ?_⟩; (focus (exfalso; (first | (with_reducible (cases h; done)) | (revert h; simp; done) | (revert h; simp; omega) | (revert h; simp [*]; done)))); clear h))
        intro z hz; obtain rfl : z = ((max (C w).length (D w).length : Nat) : Int) := by omega
        clear hz
        intro z hz; obtain rfl : z = ((mcount C D (w + 1) : Nat) : Int) := by rw [IntKind.wrap_i64] at hz; rw [mcount_succ]; omega
        clear hz
        (intro z hz; obtain rfl : z = ((w + 1 : Nat) : Int) := (by first | (rw [IntKind.wrap_i64] at hz; omega) | (rw [IntKind.wrap_u64] at hz; omega) | omega); clear hz)
        refine ⟨rfl, w + 1, ⟨hw12, fun v hv => ?_⟩, by show 12 - (w + 1) < 12 - w; omega, ⟨rfl, rfl, trivial⟩, Ent.pick [0, 1, 1, 0, 0, 0] rfl, rfl⟩
        by_cases hvw : v = w
        · rw [hvw]; exact hag
        · exact hall v (by omega)
    · refine ⟨2, rfl, like_ents _ _, ?_⟩
      rintro v b hf
      obtain ⟨B, cB, rfl, hcB, hrB⟩ := found_sl hok2 hcap2 hf (hcD (w : Int))
      clear hf
      refine ⟨0, rfl, like_ents _ _, ?_⟩
      rintro v b hf
      obtain ⟨A, cA, rfl, hcA, hrA⟩ := found_sl hok1 hcap1 hf (hcC (w : Int))
      clear hf
      obtain ⟨n, hn1⟩ : ∃ n, n = min (C w).length (D w).length := ⟨_, rfl⟩
      intro z hz; obtain rfl : z = (n : Int) := by omega
      clear hz
      refine ⟨[], (.q 0 (.q 1 (.q 2 (.q 3 (.q 4 (.q 5 (.one 6 (.q 7 .nil)))))))), by kernel_rfl, ?_⟩
      refine ⟨0, n, rfl, rfl, Nat.zero_le _, by omega, ?_⟩
      refine ⟨0, n, rfl, rfl, Nat.zero_le _, by omega, ?_⟩
      refine ⟨[], _, Equal_pre _ (hrA _ _ 3 rfl) (hrB _ _ 5 rfl) hcA hcB hn1 (by omega), ?_⟩
      rintro _ _ ⟨rfl, rfl⟩
      cases hag : agreeB (C w) (D w)
      · have hmr : mergeR C D = (C, 13) := by
          unfold mergeR
          have : ¬ agreesB C D = true := fun h => by have := (agreesB_iff hC).1 h w; rw [hag] at this; cases this
          rw [if_neg this]
        rw [hmr]
        repeat (first | (refine ⟨fun h => ?_, fun h => ?_⟩; rotate_left 1; (focus (exfalso; (first | (with_reducible (cases h; done)) | (revert h; simp; done) | (revert h; simp; omega) | (revert h; simp [*]; done)))); clear h) | (refine ⟨fun h => ?_, fun h => ?_⟩; (focus (exfalso; (first | (with_reducible (cases h; done)) | (revert h; simp; done) | (revert h; simp; omega) | (revert h; simp [*]; done)))); clear h))
        exact ⟨_, Ent.pick [0, 1, 1, 0, 0, 0] rfl, rfl, logH g1 r1 st1 c1, logH g2 r2 st2 c2, rfl, ⟨r1, st1, c1, hok1, hcC, rfl⟩, ⟨r2, st2, c2, hok2, hcD, rfl⟩⟩
      · repeat (first | (refine ⟨fun h => ?_, fun h => ?_⟩; rotate_left 1; (focus (exfalso; (first | (with_reducible (cases h; done)) | (revert h; simp; done) | (revert h; simp; omega) | (revert h; simp [*]; done)))); clear h) | (refine ⟨fun h => ?_, fun h => ?_⟩; (focus (exfalso; (first | (with_reducible (cases h; done)) | (revert h; simp; done) | (revert h; simp; omega) | (revert h; simp [*]; done)))); clear h))
        intro z hz; obtain rfl : z = ((max (C w).length (D w).length : Nat) : Int) := by omega
        clear hz
        intro z hz; obtain rfl : z = ((mcount C D (w + 1) : Nat) : Int) := by rw [IntKind.wrap_i64] at hz; rw [mcount_succ]; omega
        clear hz
        (intro z hz; obtain rfl : z = ((w + 1 : Nat) : Int) := (by first | (rw [IntKind.wrap_i64] at hz; omega) | (rw [IntKind.wrap_u64] at hz; omega) | omega); clear hz)
        refine ⟨rfl, w + 1, ⟨hw12, fun v hv => ?_⟩, by show 12 - (w + 1) < 12 - w; omega, ⟨rfl, rfl, trivial⟩, Ent.pick [0, 1, 1, 0, 0, 0] rfl, rfl⟩
        by_cases hvw : v = w
        · rw [hvw]; exact hag
        · exact hall v (by omega)
  · have hb1 := of_decide_eq_false hb0
    obtain rfl : w = 12 := by have hw : w ≤ 12 := hw; omega
    clear hb0 hb1
    have hma := mcount_all C D
    have hags : agreesB C D = true := by
      unfold agreesB
      rw [List.all_eq_true]
      exact fun v hv => hall v (List.mem_range.1 hv)
    by_cases hfull : (4096 : Int) < (mcount C D 12 : Nat)
    · have hmr : mergeR C D = (C, 7) := by unfold mergeR; rw [if_pos hags, if_pos (by omega)]
      rw [hmr]
      repeat (first | (refine ⟨fun h => ?_, fun h => ?_⟩; rotate_left 1; (focus (exfalso; (first | (with_reducible (cases h; done)) | (revert h; simp; done) | (revert h; simp; omega) | (revert h; simp [*]; done)))); clear h) | (refine ⟨fun h => ?_, fun h => ?_⟩; (focus (exfalso; (first | (with_reducible (cases h; done)) | (revert h; simp; done) | (revert h; simp; omega) | (revert h; simp [*]; done)))); clear h))
      exact ⟨_, Ent.refl _, rfl, logH g1 r1 st1 c1, logH g2 r2 st2 c2, rfl, ⟨r1, st1, c1, hok1, hcC, rfl⟩, ⟨r2, st2, c2, hok2, hcD, rfl⟩⟩
    have hmr : mergeR C D = (mergeC C D, 0) := by unfold mergeR; rw [if_pos hags, if_neg (by omega)]
    rw [hmr]
    repeat (first | (refine ⟨fun h => ?_, fun h => ?_⟩; rotate_left 1; (focus (exfalso; (first | (with_reducible (cases h; done)) | (revert h; simp; done) | (revert h; simp; omega) | (revert h; simp [*]; done)))); clear h) | (refine ⟨fun h => ?_, fun h => ?_⟩; (focus (exfalso; (first | (with_reducible (cases h; done)) | (revert h; simp; done) | (revert h; simp; omega) | (revert h; simp [*]; done)))); clear h))
    refine ⟨[none, none, none, none, none, none, none, none, none, none, some 10, some 11, none, none, none, none, none, none, none, none, none, none, none, none, none, none, none, none, none, none, none, none, none, none, none, none, none, none, none, none, none, none, none, none, none, none, none, none, none, none, some 50, some 51, some 52, some 53, some 54, some 55, some 56, some 57, some 58, some 59, some 60, some 61, some 62, some 63, some 64, some 65, some 66, some 67, some 68, some 69, some 70, some 71, some 72, some 73, some 74, some 75], [50], Nat × List WR × Nat, fun ⟨w, st, c⟩ => w ≤ 12 ∧ LogOk st c ∧ (∀ v : Int, chainOf st v = if v < w then mrgL (C v) (D v) else C v) ∧ ∀ x ∈ st, x.l.length ≤ x.cap, fun ⟨w, _, _⟩ => [.int .i64 w],
      fun ⟨w, st, c⟩ => [.blk g1 161 [.map (some r1)], logM r1 st c, .rows (rowsOf st), .blk g2 161 [.map (some r2)], logM r2 st2 c2, .rows (rowsOf st2)], fun ⟨w, _, _⟩ => 12 - w, (0, st1, c1), ⟨Nat.zero_le _, hok1, fun v => ?_, hcap1⟩, ⟨rfl, trivial⟩, Ent.refl _, ?_⟩
    · rw [hcC]
      by_cases hv : v < ((0 : Nat) : Int)
      · rw [if_pos hv, hC.out v (by omega), hD.out v (by omega)]; rfl
      · rw [if_neg hv]
    rintro ⟨w, st, c⟩ ⟨hw, hok, hch, hcap⟩ js2
    refine ⟨fun hb0 => ?_, fun hb0 => ?_⟩
    · have hb1 := of_decide_eq_true hb0
      have hw12 : w < 12 := by omega
      clear hb0 hb1
      have hlC := len_le_count hC.out w
      have hlD := len_le_count hD.out w
      have hchw : chainOf st (w : Int) = C w := by rw [hch, if_neg (by omega)]
      refine ⟨[0,2], (.q 0 (.q 1 (.q 2 (.q 3 (.q 4 (.q 6 (.q 7 (.q 8 (.q 9 (.q 10 (.two 5 (.one 11 (.one 12 (.q 13 .nil))) 11 (.one 5 (.one 12 (.q 13 .nil)))))))))))))), by kernel_rfl, ?_⟩
      refine ⟨_, ld 0 rfl rfl, ?_⟩
      refine ⟨_, ld 1 rfl rfl, ?_⟩
      refine ⟨?_, ?_⟩
      · refine ⟨0, rfl, like_ents _ _, ?_⟩
        rintro v b hf
        obtain ⟨A, cA, rfl, hcA, hrA⟩ := found_sl hok hcap hf hchw
        clear hf
        refine ⟨2, rfl, like_ents _ _, ?_⟩
        rintro v b hf
        obtain ⟨B, cB, rfl, hcB, hrB⟩ := found_sl hok2 hcap2 hf (hcD (w : Int))
        clear hf
        refine ⟨[], _, merged_okC _ (hrA _ _ 1 rfl) (hrB _ _ 3 rfl) hcA hcB (by omega) (by omega), ?_⟩
        rintro _ _ ⟨A', cap', hg', hcap', rfl, rfl⟩
        have hchn : ∀ (f : Int → List Rec), (∀ v : Int, v ≠ (w : Int) → f v = chainOf st v) → f w = mrgL (C w) (D w) → ∀ v : Int, f v = if v < ((w + 1 : Nat) : Int) then mrgL (C v) (D v) else C v := fun f h1 h2 v => by
          by_cases hv : v = (w : Int)
          · rw [hv, h2, if_pos (by omega)]
          · rw [h1 v hv, hch]
            by_cases hv2 : v < (w : Int)
            · rw [if_pos hv2, if_pos (by omega)]
            · rw [if_neg hv2, if_neg (by omega)]
        by_cases hz : (mrgL (C w) (D w)).length = 0
        · repeat (first | (refine ⟨fun h => ?_, fun h => ?_⟩; rotate_left 1; (focus (exfalso; (first | (with_reducible (cases h; done)) | (revert h; simp; done) | (revert h; simp; omega) | (revert h; simp [*]; done)))); clear h) | (refine ⟨fun h => ?_, fun h => ?_⟩; (focus (exfalso; (first | (with_reducible (cases h; done)) | (revert h; simp; done) | (revert h; simp; omega) | (revert h; simp [*]; done)))); clear h))
          (intro z hz; obtain rfl : z = ((w + 1 : Nat) : Int) := (by first | (rw [IntKind.wrap_i64] at hz; omega) | (rw [IntKind.wrap_u64] at hz; omega) | omega); clear hz)
          refine ⟨rfl, (w + 1, st, c), ⟨hw12, hok, hchn _ (fun v _ => rfl) ?_, hcap⟩, by show 12 - (w + 1) < 12 - w; omega, ⟨rfl, trivial⟩, Ent.pick [0, 1, 1, 0, 0, 0] rfl, rfl⟩
          have h1 := mrgL_length (C w) (D w)
          rw [hchw, List.eq_nil_of_length_eq_zero hz]
          exact List.eq_nil_of_length_eq_zero (by omega)
        repeat (first | (refine ⟨fun h => ?_, fun h => ?_⟩; rotate_left 1; (focus (exfalso; (first | (with_reducible (cases h; done)) | (revert h; simp; done) | (revert h; simp; omega) | (revert h; simp [*]; done)))); clear h) | (refine ⟨fun h => ?_, fun h => ?_⟩; (focus (exfalso; (first | (with_reducible (cases h; done)) | (revert h; simp; done) | (revert h; simp; omega) | (revert h; simp [*]; done)))); clear h))
        refine ⟨_, ld 0 rfl rfl, ?_⟩
        refine ⟨2, rfl, like_ents _ _, ?_⟩
        rintro es' c' hu
        by_cases hx : ∃ x ∈ st, x.w = (w : Int)
        · obtain ⟨p, x, q, rfl, hxw, hp⟩ := wr_split hx
          obtain ⟨rfl, hcc⟩ := upd_mid (A := A') (cap := cap') (l := mrgL (C w) (D w)) hxw hp rfl hu
          replace hcc := hcc.symm
          subst hcc
          clear hu
          (intro z hz; obtain rfl : z = ((w + 1 : Nat) : Int) := (by first | (rw [IntKind.wrap_i64] at hz; omega) | (rw [IntKind.wrap_u64] at hz; omega) | omega); clear hz)
          refine ⟨rfl, (w + 1, p ++ { x with A := A', cap := cap', l := mrgL (C w) (D w) } :: q, c), ⟨hw12, hok.set hg', hchn _ (fun v hv => chainOf_other (x := { x with A := A', cap := cap', l := mrgL (C w) (D w) }) (y := x) (fun e => hv (by rw [← e, ← hxw])) (fun e => hv (by rw [← e, ← hxw]))) (chainOf_mid (x := { x with A := A', cap := cap', l := mrgL (C w) (D w) }) hxw hp), fun y hy => ?_⟩, by show 12 - (w + 1) < 12 - w; omega, ⟨rfl, trivial⟩, ?_, rfl⟩
          · rcases List.mem_append.1 hy with hy | hy
            · exact hcap y (by simp [hy])
            · rcases List.mem_cons.1 hy with rfl | hy
              · exact hcap'
              · exact hcap y (by simp [hy])
          · exact Ent.trans (b := [.blk g1 161 [.map (some r1)], logM r1 (p ++ { x with A := A', cap := cap', l := mrgL (C w) (D w) } :: q) c, .rows (rowsOf (p ++ x :: q)), ({ x with A := A', cap := cap', l := mrgL (C w) (D w) } : WR).row.ha] ++ [.blk g2 161 [.map (some r2)], logM r2 st2 c2, .rows (rowsOf st2)]) (Ent.pick [0, 1, 1, 3, 0, 0, 0] rfl) (Ent.app (Ent.app (Ent.refl [_, _]) (rows_swap p q x A' cap' _)) (Ent.refl _))
        · have hx' : ∀ x ∈ st, x.w ≠ (w : Int) := fun x hm e => hx ⟨x, hm, e⟩
          obtain ⟨rfl, rfl⟩ := upd_new (A := A') (cap := cap') (l := mrgL (C w) (D w)) hx' rfl hu
          clear hu
          (intro z hz; obtain rfl : z = ((w + 1 : Nat) : Int) := (by first | (rw [IntKind.wrap_i64] at hz; omega) | (rw [IntKind.wrap_u64] at hz; omega) | omega); clear hz)
          refine ⟨rfl, (w + 1, st ++ [⟨w, A', cap', c, mrgL (C w) (D w)⟩], c + 1), ⟨hw12, hok.new (by omega) hx' hg', hchn _ (fun v hv => chainOf_new (y := ⟨w, A', cap', c, mrgL (C w) (D w)⟩) (fun e => hv e.symm)) (chainOf_mid (x := ⟨w, A', cap', c, mrgL (C w) (D w)⟩) rfl hx'), fun y hy => ?_⟩, by show 12 - (w + 1) < 12 - w; omega, ⟨rfl, trivial⟩, ?_, rfl⟩
          · rcases List.mem_append.1 hy with hy | hy
            · exact hcap y hy
            · rw [List.mem_singleton.1 hy]; exact hcap'
          · exact Ent.trans (b := [.blk g1 161 [.map (some r1)], logM r1 (st ++ [(⟨w, A', cap', c, mrgL (C w) (D w)⟩ : WR)]) (c + 1), .rows (rowsOf st), (⟨w, A', cap', c, mrgL (C w) (D w)⟩ : WR).row.ha] ++ [.blk g2 161 [.map (some r2)], logM r2 st2 c2, .rows (rowsOf st2)]) (Ent.pick [0, 1, 1, 3, 0, 0, 0] rfl) (Ent.app (Ent.app (Ent.refl [_, _]) (rows_add st _)) (Ent.refl _))
      · refine ⟨2, rfl, like_ents _ _, ?_⟩
        rintro v b hf
        obtain ⟨B, cB, rfl, hcB, hrB⟩ := found_sl hok2 hcap2 hf (hcD (w : Int))
        clear hf
        refine ⟨0, rfl, like_ents _ _, ?_⟩
        rintro v b hf
        obtain ⟨A, cA, rfl, hcA, hrA⟩ := found_sl hok hcap hf hchw
        clear hf
        refine ⟨[], _, merged_okC _ (hrA _ _ 1 rfl) (hrB _ _ 3 rfl) hcA hcB (by omega) (by omega), ?_⟩
        rintro _ _ ⟨A', cap', hg', hcap', rfl, rfl⟩
        have hchn : ∀ (f : Int → List Rec), (∀ v : Int, v ≠ (w : Int) → f v = chainOf st v) → f w = mrgL (C w) (D w) → ∀ v : Int, f v = if v < ((w + 1 : Nat) : Int) then mrgL (C v) (D v) else C v := fun f h1 h2 v => by
          by_cases hv : v = (w : Int)
          · rw [hv, h2, if_pos (by omega)]
          · rw [h1 v hv, hch]
            by_cases hv2 : v < (w : Int)
            · rw [if_pos hv2, if_pos (by omega)]
            · rw [if_neg hv2, if_neg (by omega)]
        by_cases hz : (mrgL (C w) (D w)).length = 0
        · repeat (first | (refine ⟨fun h => ?_, fun h => ?_⟩; rotate_left 1; (focus (exfalso; (first | (with_reducible (cases h; done)) | (revert h; simp; done) | (revert h; simp; omega) | (revert h; simp [*]; done)))); clear h) | (refine ⟨fun h => ?_, fun h => ?_⟩; (focus (exfalso; (first | (with_reducible (cases h; done)) | (revert h; simp; done) | (revert h; simp; omega) | (revert h; simp [*]; done)))); clear h))
          (intro z hz; obtain rfl : z = ((w + 1 : Nat) : Int) := (by first | (rw [IntKind.wrap_i64] at hz; omega) | (rw [IntKind.wrap_u64] at hz; omega) | omega); clear hz)
          refine ⟨rfl, (w + 1, st, c), ⟨hw12, hok, hchn _ (fun v _ => rfl) ?_, hcap⟩, by show 12 - (w + 1) < 12 - w; omega, ⟨rfl, trivial⟩, Ent.pick [0, 1, 1, 0, 0, 0] rfl, rfl⟩
          have h1 := mrgL_length (C w) (D w)
          rw [hchw, List.eq_nil_of_length_eq_zero hz]
          exact List.eq_nil_of_length_eq_zero (by omega)
        repeat (first | (refine ⟨fun h => ?_, fun h => ?_⟩; rotate_left 1; (focus (exfalso; (first | (with_reducible (cases h; done)) | (revert h; simp; done) | (revert h; simp; omega) | (revert h; simp [*]; done)))); clear h) | (refine ⟨fun h => ?_, fun h => ?_⟩; (focus (exfalso; (first | (with_reducible (cases h; done)) | (revert h; simp; done) | (revert h; simp; omega) | (revert h; simp [*]; done)))); clear h))
        refine ⟨_, ld 0 rfl rfl, ?_⟩
        refine ⟨2, rfl, like_ents _ _, ?_⟩
        rintro es' c' hu
        by_cases hx : ∃ x ∈ st, x.w = (w : Int)
        · obtain ⟨p, x, q, rfl, hxw, hp⟩ := wr_split hx
          obtain ⟨rfl, hcc⟩ := upd_mid (A := A') (cap := cap') (l := mrgL (C w) (D w)) hxw hp rfl hu
          replace hcc := hcc.symm
          subst hcc
          clear hu
          (intro z hz; obtain rfl : z = ((w + 1 : Nat) : Int) := (by first | (rw [IntKind.wrap_i64] at hz; omega) | (rw [IntKind.wrap_u64] at hz; omega) | omega); clear hz)
          refine ⟨rfl, (w + 1, p ++ { x with A := A', cap := cap', l := mrgL (C w) (D w) } :: q, c), ⟨hw12, hok.set hg', hchn _ (fun v hv => chainOf_other (x := { x with A := A', cap := cap', l := mrgL (C w) (D w) }) (y := x) (fun e => hv (by rw [← e, ← hxw])) (fun e => hv (by rw [← e, ← hxw]))) (chainOf_mid (x := { x with A := A', cap := cap', l := mrgL (C w) (D w) }) hxw hp), fun y hy => ?_⟩, by show 12 - (w + 1) < 12 - w; omega, ⟨rfl, trivial⟩, ?_, rfl⟩
          · rcases List.mem_append.1 hy with hy | hy
            · exact hcap y (by simp [hy])
            · rcases List.mem_cons.1 hy with rfl | hy
              · exact hcap'
              · exact hcap y (by simp [hy])
          · exact Ent.trans (b := [.blk g1 161 [.map (some r1)], logM r1 (p ++ { x with A := A', cap := cap', l := mrgL (C w) (D w) } :: q) c, .rows (rowsOf (p ++ x :: q)), ({ x with A := A', cap := cap', l := mrgL (C w) (D w) } : WR).row.ha] ++ [.blk g2 161 [.map (some r2)], logM r2 st2 c2, .rows (rowsOf st2)]) (Ent.pick [0, 1, 1, 3, 0, 0, 0] rfl) (Ent.app (Ent.app (Ent.refl [_, _]) (rows_swap p q x A' cap' _)) (Ent.refl _))
        · have hx' : ∀ x ∈ st, x.w ≠ (w : Int) := fun x hm e => hx ⟨x, hm, e⟩
          obtain ⟨rfl, rfl⟩ := upd_new (A := A') (cap := cap') (l := mrgL (C w) (D w)) hx' rfl hu
          clear hu
          (intro z hz; obtain rfl : z = ((w + 1 : Nat) : Int) := (by first | (rw [IntKind.wrap_i64] at hz; omega) | (rw [IntKind.wrap_u64] at hz; omega) | omega); clear hz)
          refine ⟨rfl, (w + 1, st ++ [⟨w, A', cap', c, mrgL (C w) (D w)⟩], c + 1), ⟨hw12, hok.new (by omega) hx' hg', hchn _ (fun v hv => chainOf_new (y := ⟨w, A', cap', c, mrgL (C w) (D w)⟩) (fun e => hv e.symm)) (chainOf_mid (x := ⟨w, A', cap', c, mrgL (C w) (D w)⟩) rfl hx'), fun y hy => ?_⟩, by show 12 - (w + 1) < 12 - w; omega, ⟨rfl, trivial⟩, ?_, rfl⟩
          · rcases List.mem_append.1 hy with hy | hy
            · exact hcap y hy
            · rw [List.mem_singleton.1 hy]; exact hcap'
          · exact Ent.trans (b := [.blk g1 161 [.map (some r1)], logM r1 (st ++ [(⟨w, A', cap', c, mrgL (C w) (D w)⟩ : WR)]) (c + 1), .rows (rowsOf st), (⟨w, A', cap', c, mrgL (C w) (D w)⟩ : WR).row.ha] ++ [.blk g2 161 [.map (some r2)], logM r2 st2 c2, .rows (rowsOf st2)]) (Ent.pick [0, 1, 1, 3, 0, 0, 0] rfl) (Ent.app (Ent.app (Ent.refl [_, _]) (rows_add st _)) (Ent.refl _))
    · have hb1 := of_decide_eq_false hb0
      obtain rfl : w = 12 := by have hw : w ≤ 12 := hw; omega
      refine ⟨_, Ent.refl _, rfl, logH g1 r1 st c, logH g2 r2 st2 c2, rfl, ⟨r1, st, c, hok, fun v => ?_, rfl⟩, ⟨r2, st2, c2, hok2, hcD, rfl⟩⟩
      rw [hch]
      by_cases hv : v < ((12 : Nat) : Int)
      · rw [if_pos hv]; rfl
      · rw [if_neg hv]
        show C v = mrgL (C v) (D v)
        rw [hC.out v (by omega), hD.out v (by omega)]; rfl

end Go.Proofs.YtoddabjacjkjbaaDoor
