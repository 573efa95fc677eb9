/-
  Contracts: Latest of a log; the iterator that it ranges over.
-/
import Derived.Test.YtoddabjacjkjbaaDoorS2
import Derived.Test.YtoddabjacjkjbaaDoorV2
namespace Go.Proofs.YtoddabjacjkjbaaDoor
open Go Go.RowKit
set_option linter.unusedVariables false

def rcAt (l : List Rec) (i : Nat) : Rec := l.getD i ⟨Snap.zero, false, false⟩
theorem rcAt_get {l : List Rec} {i : Nat} (h : i < l.length) : l[i]? = some (rcAt l i) := by
  unfold rcAt
  rw [List.getD_eq_getElem?_getD, List.getElem?_eq_getElem h]; rfl
def bwd (n k : Nat) : List Nat := ((List.range n).drop k).reverse
theorem bwd_top (n : Nat) : bwd n n = [] := by simp [bwd]
theorem bwd_step {n k : Nat} (h : k < n) : bwd n (k + 1) ++ [k] = bwd n k := by
  unfold bwd
  rw [List.drop_eq_getElem_cons (i := k) (by simpa using h)]; simp
theorem bwd_pre (n k : Nat) : bwd n k <+: bwd n 0 := by
  unfold bwd
  rw [List.drop_zero]; exact List.reverse_prefix.2 (List.drop_suffix _ _)
theorem bwd_len (n k : Nat) : (bwd n k).length = n - k := by simp [bwd]

theorem back_seq (R : Rd) {gb : Nat} {A : Option Addr} {cap : Nat} {l : List Rec} (hb : R ⟨gb, 0, .none⟩ (.slice A l.length cap)) (hs : SlR R 12 (.slice A l.length cap) l.length (recs l)) (hn : l.length ≤ 1000000) :
    ∀ w, RSat R w → SeqStopsK Fence.wide 3 Tryd.prog 164 [Value.pointer (some ⟨gb, 0, .none⟩)].toArray (fun x : Nat => [Value.int .i64 (x : Int), .agg ⟨(rcAt l x).cells⟩].toArray) (fun A B => RSat R A → RSat R B) (fun ys => ys = bwd l.length 0) (fun pre => pre <+: bwd l.length 0) (bwd l.length 0).length w := by
  refine seq_of_it (enc := fun x : Nat => [Value.int .i64 (x : Int), .agg ⟨(rcAt l x).cells⟩]) tabOk Tryd.func164 rfl rfl (Nat.le_of_ble_eq_true rfl) ?_
  intro lp
  refine ⟨rfl, _, hb, rfl, rfl, ?_⟩
  (intro z hz; obtain rfl := wr_i64 hz (by omega) (by omega); clear hz)
  refine ⟨rfl, ?_⟩
  refine ⟨[none, none, none, some 3, none, none, none, some 7, some 8, some 9, some 10, some 11, some 12, some 13, some 14, some 15, some 16, some 17, some 18], [3], Nat, fun k => k ≤ l.length, fun k => [.int .i64 ((k : Int) - 1)], fun k => bwd l.length k, fun k => k, l.length, rfl, Nat.le_refl _, ⟨rfl, trivial⟩, (bwd_top _).symm, ?_⟩
  intro k hk js
  refine ⟨rfl, rfl, ?_⟩
  refine ⟨fun hb0 => ?_, fun hb0 => ?_⟩
  · have hk0 : (0 : Int) ≤ (k : Int) - 1 := of_decide_eq_true hb0
    obtain ⟨i, rfl⟩ : ∃ i, k = i + 1 := ⟨k - 1, by omega⟩
    have hil : i < l.length := by omega
    have hget := rcAt_get hil
    have hii : ((i + 1 : Nat) : Int) - 1 = (i : Int) := by omega
    rw [hii]
    have hstep := bwd_step hil
    have hlen := bwd_len l.length
    have hpre := bwd_pre l.length i
    generalize hx : rcAt l i = x at *
    obtain ⟨a, rfl, hr⟩ := slr_at (c := Rec.cells) (fun _ => rfl) (by omega) hs hget
    refine ⟨rfl, rfl, rfl, _, hb, rfl, rfl, by omega, by omega, a, rfl, rfl, ?_⟩
    refine ⟨x.cells, fun j u hu => rdnS (vs := x.cells) (fun j u hu => hr j u hu) j u hu, rfl, rfl, rfl, rfl, rfl, rfl, i, by show [Value.int .i64 (i : Int), .agg ⟨x.cells⟩] = [.int .i64 (i : Int), .agg ⟨(rcAt l i).cells⟩]; rw [hx], by show (bwd l.length (i + 1)).length < _; rw [hlen, hlen]; omega, ?_, ?_⟩
    · refine ⟨rfl, ?_⟩
      refine ⟨fun h => absurd h (by decide), fun _ => ?_⟩
      refine ⟨rfl, rfl, ?_⟩
      (intro z hz; obtain rfl := wr_i64 hz (by omega) (by omega); clear hz)
      refine ⟨rfl, ?_⟩
      refine ⟨rfl, i, by omega, by show i < i + 1; omega, ⟨rfl, trivial⟩, hstep, rfl⟩
    · refine ⟨rfl, ?_⟩
      refine ⟨fun _ => ?_, fun h => absurd h (by decide)⟩
      refine .inr ⟨rfl, ?_⟩
      show bwd l.length (i + 1) ++ [i] <+: _
      rw [hstep]
      exact hpre
  · have hk0 : ¬ (0 : Int) ≤ (k : Int) - 1 := of_decide_eq_false hb0
    obtain rfl : k = 0 := by omega
    exact .inl ⟨rfl, rfl⟩

end Go.Proofs.YtoddabjacjkjbaaDoor

namespace Go.Proofs.YtoddabjacjkjbaaDoor
open Go Go.RowKit
set_option linter.unusedVariables false

theorem rev_bwd (l : List Rec) : l.reverse = (bwd l.length 0).map (rcAt l) := by
  have e : (List.range l.length).map (rcAt l) = l := by
    apply List.ext_getElem?
    intro i
    by_cases h : i < l.length
    · rw [List.getElem?_map, List.getElem?_range h]
      exact (rcAt_get h).symm
    · rw [List.getElem?_eq_none (by simpa using h), List.getElem?_eq_none (by omega)]
  unfold bwd
  rw [List.drop_zero, List.map_reverse, e]
theorem find_stop {α : Type} {p : α → Bool} {pre xs : List α} {i : α} (h : pre ++ [i] <+: xs) (hp : ∀ j ∈ pre, p j = false) (hi : p i = true) : xs.find? p = some i := by
  obtain ⟨t, rfl⟩ := h
  have e : pre.find? p = .none := List.find?_eq_none.2 fun x hx => by rw [hp x hx]; decide
  rw [List.append_assoc, List.find?_append, e]
  simp [hi]
def okB (d : Int) (x : Rec) : Bool := !x.fo && decide (x.s.d ≤ d)
theorem latest_none {C : Int → List Rec} {w d : Int} (h : ∀ i ∈ bwd (C w).length 0, okB d (rcAt (C w) i) = false) : latestC C w d = (Snap.zero, 4) := by
  unfold latestC
  have e : (C w).reverse.find? (fun x => !x.fo && decide (x.s.d ≤ d)) = .none := by
    rw [rev_bwd, List.find?_map, Option.map_eq_none_iff]
    exact List.find?_eq_none.2 fun i hi => by
      show ¬ okB d (rcAt (C w) i) = true
      rw [h i hi]; decide
  rw [e]
theorem latest_some {C : Int → List Rec} {w d : Int} {pre : List Nat} {i : Nat} (hp : pre ++ [i] <+: bwd (C w).length 0) (h : ∀ i ∈ pre, okB d (rcAt (C w) i) = false) (hi : okB d (rcAt (C w) i) = true) : latestC C w d = ((rcAt (C w) i).shown, 0) := by
  unfold latestC
  have e : (C w).reverse.find? (fun x => !x.fo && decide (x.s.d ≤ d)) = some (rcAt (C w) i) := by
    rw [rev_bwd, List.find?_map, find_stop (p := (fun x : Rec => !x.fo && decide (x.s.d ≤ d)) ∘ rcAt (C w)) hp h hi]; rfl
  rw [e]

theorem Near.snoc {h : Hp} {x : HA} (hx : x.isC = true) : Near h (h ++ [x]) := fun y hy => by
  rcases List.mem_append.1 hy with hy | hy
  · exact .inl hy
  · rw [List.mem_singleton.1 hy]; exact .inr hx

theorem Backward_ok (R : Rd) (A : Option Addr) (n cap : Nat) : Fn Tryd.prog 129 [.slice A n cap] [] R
    (fun v h => ∃ gb, v = .func (.func 164) #[] #[.pointer (some ⟨gb, 0, .none⟩)] ∧ h = [.blk gb 158 [.slice A n cap]]) := by
  refine fn_of_vc mixed tabOk Tryd.func129 rfl (by kernel_rfl) (Nat.le_of_ble_eq_true rfl) ?_
  intro gb
  exact ⟨_, Ent.refl _, gb, rfl, rfl⟩

set_option maxRecDepth 100000 in
set_option maxHeartbeats 4000000 in
theorem Latest_ok (R : Rd) {g r : Nat} {st : List WR} {c : Nat} (hL : LogR R g r st) (w d : Int) (hn : (chainOf st w).length ≤ 1000000) :
    Fn Tryd.prog 81 [.pointer (some ⟨g, 0, .none⟩), .int .i64 w, .int .i64 d] [logM r st c] R
      (fun v h => v = .tuple ⟨[.agg ⟨(latestC (chainOf st) w d).1.cells⟩, .int .i64 (latestC (chainOf st) w d).2]⟩ ∧ h = [logM r st c]) := by
  refine fnM_of_vc mixed tabOk Tryd.func81 rfl (by kernel_rfl) (Nat.le_of_ble_eq_true rfl) ?_
  intro g5 g6 g7
  refine ⟨_, .inl hL.m, ?_⟩
  refine ⟨0, rfl, like_ents _ _, ?_⟩
  rintro v b hf
  obtain ⟨A, cap, rfl, hs⟩ := hL.found hf
  refine ⟨[], _, Backward_ok _ A _ cap, ?_⟩
  rintro _ _ ⟨gb, rfl, rfl⟩
  intro w0 own0 hr0 ap0
  refine vc_rangeK (xs := bwd (chainOf st w).length 0) (enc := fun x : Nat => [Value.int .i64 (x : Int), .agg ⟨(rcAt (chainOf st w) x).cells⟩]) tabOk (gf := 164) (lb := [.pointer (some ⟨gb, 0, .none⟩)]) rfl (callable Tryd.func164 rfl (by kernel_rfl)) (fun _ => rfl)
    (fun w1 hw1 => back_seq _ (ld 4 rfl rfl) (hs.mono fun a v hv => .inl hv) hn w1 hw1) rfl rfl (fun pre => ∀ i ∈ pre, okB d (rcAt (chainOf st w) i) = false)
    (fun pre hS => ∃ pre' i, pre = pre' ++ [i] ∧ (∀ j ∈ pre', okB d (rcAt (chainOf st w) j) = false) ∧ okB d (rcAt (chainOf st w) i) = true ∧ hS = [logM r st c, .blk g6 140 (rcAt (chainOf st w) i).shown.cells, .blk g7 37 [.int .i64 0]])
    (fun i hi => by simp at hi) ?_ ?_ ?_ w0 own0 hr0 ap0
  · clear own0 hr0 ap0
    intro i g9
    refine ⟨rfl, rfl, 5, rfl, rfl, Nat.le_of_ble_eq_true rfl, ?_⟩
    refine ⟨rfl, Near.snoc (h := [_, _, _, _, _]) rfl, Ent.drop [_, _, _, _, _] [_], fun pre hinv => ?_⟩
    have hext : ∀ {bo : Bool}, okB d (rcAt (chainOf st w) i) = false → ∀ j ∈ pre ++ [i], okB d (rcAt (chainOf st w) j) = false := fun he j hj => by
      rcases List.mem_append.1 hj with hj | hj
      · exact hinv j hj
      · rw [List.mem_singleton.1 hj]; exact he
    generalize hx : rcAt (chainOf st w) i = x at *
    refine ⟨_, ld 5 rfl rfl, ?_⟩
    cases hfo : x.fo
    · repeat (first | (refine ⟨fun h => ?_, fun h => ?_⟩; rotate_left 1; (focus (exfalso; (first | (with_reducible (cases h; done)) | (revert h; simp; done) | (revert h; simp; omega) | (revert h; simp [*]; done)))); clear h) | (refine ⟨fun h => ?_, fun h => ?_⟩; (focus (exfalso; (first | (with_reducible (cases h; done)) | (revert h; simp; done) | (revert h; simp; omega) | (revert h; simp [*]; done)))); clear h))
      refine ⟨_, ld 5 rfl rfl, ?_⟩
      repeat (first | (refine ⟨fun h => ?_, fun h => ?_⟩; rotate_left 1; (focus (exfalso; (first | (with_reducible (cases h; done)) | (revert h; simp; done) | (revert h; simp; omega) | (revert h; simp [*]; done)))); clear h) | (refine ⟨fun h => ?_, fun h => ?_⟩; (focus (exfalso; (first | (with_reducible (cases h; done)) | (revert h; simp; done) | (revert h; simp; omega) | (revert h; simp [*]; done)))); clear h))
      refine ⟨_, ld 1 rfl rfl, ?_⟩
      by_cases hd : x.s.d ≤ d
      · repeat (first | (refine ⟨fun h => ?_, fun h => ?_⟩; rotate_left 1; (focus (exfalso; (first | (with_reducible (cases h; done)) | (revert h; simp; done) | (revert h; simp; omega) | (revert h; simp [*]; done)))); clear h) | (refine ⟨fun h => ?_, fun h => ?_⟩; (focus (exfalso; (first | (with_reducible (cases h; done)) | (revert h; simp; done) | (revert h; simp; omega) | (revert h; simp [*]; done)))); clear h))
        refine ⟨x.cells, rdBlk 5 rfl, rfl, ?_⟩
        refine ⟨[], _, shown_ok _ x, ?_⟩
        rintro _ _ ⟨rfl, rfl⟩
        refine ⟨rfl, rfl, 2, rfl, rfl, Nat.le_of_ble_eq_true rfl, ?_⟩
        refine ⟨rfl, rfl, 3, rfl, rfl, Nat.le_of_ble_eq_true rfl, ?_⟩
        refine ⟨[logM r st c, .blk g6 140 x.shown.cells, .blk g7 37 [.int .i64 0]], Ent.pick [0, 1, 1] rfl, ?_, pre, i, rfl, hinv, ?_, by rw [hx]⟩
        · intro y hy
          rcases List.mem_cons.1 hy with rfl | hy
          · exact .inl (by simp)
          · rcases List.mem_cons.1 hy with rfl | hy
            · exact .inr rfl
            · rw [List.mem_singleton.1 hy]; exact .inr rfl
        · rw [hx]; unfold okB; rw [hfo, decide_eq_true hd]; rfl
      · repeat (first | (refine ⟨fun h => ?_, fun h => ?_⟩; rotate_left 1; (focus (exfalso; (first | (with_reducible (cases h; done)) | (revert h; simp; done) | (revert h; simp; omega) | (revert h; simp [*]; done)))); clear h) | (refine ⟨fun h => ?_, fun h => ?_⟩; (focus (exfalso; (first | (with_reducible (cases h; done)) | (revert h; simp; done) | (revert h; simp; omega) | (revert h; simp [*]; done)))); clear h))
        exact ⟨Ent.drop [_, _, _, _, _] [_], hext (bo := true) (by unfold okB; rw [hfo, decide_eq_false hd]; rfl)⟩
    · repeat (first | (refine ⟨fun h => ?_, fun h => ?_⟩; rotate_left 1; (focus (exfalso; (first | (with_reducible (cases h; done)) | (revert h; simp; done) | (revert h; simp; omega) | (revert h; simp [*]; done)))); clear h) | (refine ⟨fun h => ?_, fun h => ?_⟩; (focus (exfalso; (first | (with_reducible (cases h; done)) | (revert h; simp; done) | (revert h; simp; omega) | (revert h; simp [*]; done)))); clear h))
      exact ⟨Ent.drop [_, _, _, _, _] [_], hext (bo := true) (by unfold okB; rw [hfo]; rfl)⟩
  · intro hi D
    clear own0 hr0 ap0
    rw [latest_none hi]
    refine ⟨rfl, rfl, 2, rfl, rfl, Nat.le_of_ble_eq_true rfl, ?_⟩
    refine ⟨rfl, rfl, 3, rfl, rfl, Nat.le_of_ble_eq_true rfl, ?_⟩
    refine ⟨5, rfl, ?_⟩
    refine ⟨Snap.zero.cells, rdBlk 2 rfl, rfl, ?_⟩
    refine ⟨_, ld 3 rfl rfl, ?_⟩
    exact ⟨_, Ent.drop [_] [_, _, _, _, _], rfl, rfl⟩
  · rintro pre hS hp ⟨pre', i, rfl, h1, h2, rfl⟩ D
    clear own0 hr0 ap0
    rw [latest_some hp h1 h2]
    refine ⟨3, rfl, ?_⟩
    refine ⟨(rcAt (chainOf st w) i).shown.cells, rdBlk 1 rfl, rfl, ?_⟩
    refine ⟨_, ld 2 rfl rfl, ?_⟩
    exact ⟨_, Ent.drop [_] [_, _, _], rfl, rfl⟩

end Go.Proofs.YtoddabjacjkjbaaDoor

namespace Go.Proofs.YtoddabjacjkjbaaDoor
open Go Go.RowKit
set_option linter.unusedVariables false

/-! ### a map from writers to records -/
structure VE where
  w : Int
  s : Snap
  born : Nat
def VE.entry (x : VE) : MapEntry := ⟨.int .i64 x.w, .agg ⟨x.s.cells⟩, x.born⟩
def entsV (ve : List VE) : List MapEntry := ve.map VE.entry
def lookV : List VE → Int → Option Snap
  | [], _ => .none
  | x :: r, n => if x.w = n then some x.s else lookV r n
theorem like_entsV (ve : List VE) (n : Int) : ∀ e ∈ entsV ve, likeKey (.int .i64 n) e.key = true := by
  intro e he
  obtain ⟨x, _, rfl⟩ := List.mem_map.1 he
  rfl
theorem lookV_mid {a b : List VE} {x : VE} {n : Int} (hx : x.w = n) (ha : ∀ y ∈ a, y.w ≠ n) : lookV (a ++ x :: b) n = some x.s := by
  induction a with
  | nil => exact if_pos hx
  | cons y r ih =>
    show (if y.w = n then _ else lookV (r ++ x :: b) n) = _
    rw [if_neg (ha y (by simp))]
    exact ih fun z hz => ha z (by simp [hz])
theorem lookV_other {a b : List VE} {x y : VE} {n : Int} (hx : x.w ≠ n) (hy : y.w ≠ n) : lookV (a ++ x :: b) n = lookV (a ++ y :: b) n := by
  induction a with
  | nil =>
    show (if x.w = n then _ else lookV b n) = (if y.w = n then _ else lookV b n)
    rw [if_neg hx, if_neg hy]
  | cons z r ih =>
    show (if z.w = n then _ else lookV (r ++ x :: b) n) = (if z.w = n then _ else lookV (r ++ y :: b) n)
    rw [ih]
theorem lookV_snoc {a : List VE} {y : VE} {n : Int} (hy : y.w ≠ n) : lookV (a ++ [y]) n = lookV a n := by
  induction a with
  | nil => exact if_neg hy
  | cons z r ih =>
    show (if z.w = n then _ else lookV (r ++ [y]) n) = (if z.w = n then _ else lookV r n)
    rw [ih]
theorem ve_find (n : Int) : ∀ (ve : List VE) (i : Nat), (findE (.int .i64 n) (entsV ve) i = .none ∧ lookV ve n = .none ∧ ∀ y ∈ ve, y.w ≠ n) ∨
    ∃ a x b, ve = a ++ x :: b ∧ x.w = n ∧ (∀ y ∈ a, y.w ≠ n) ∧ findE (.int .i64 n) (entsV ve) i = some (i + a.length, .agg ⟨x.s.cells⟩)
  | [], i => .inl ⟨rfl, rfl, fun y hy => by simp at hy⟩
  | x :: r, i => by
    have hf : findE (.int .i64 n) (entsV (x :: r)) i = if sameKey (.int .i64 n) x.entry.key = true then some (i, x.entry.val) else findE (.int .i64 n) (entsV r) (i + 1) := by
      show findE _ (x.entry :: entsV r) i = _
      rw [findE]
      cases sameKey (.int .i64 n) x.entry.key <;> rfl
    by_cases hx : x.w = n
    · right
      refine ⟨[], x, r, rfl, hx, fun y hy => by simp at hy, ?_⟩
      have hk : sameKey (.int .i64 n) x.entry.key = true := decide_eq_true hx.symm
      rw [hf, if_pos hk]; rfl
    · have hk : ¬ sameKey (.int .i64 n) x.entry.key = true := fun e => hx (of_decide_eq_true e).symm
      rcases ve_find n r (i + 1) with ⟨h1, h2, h3⟩ | ⟨a, y, b, h0, h1, h2, h3⟩
      · left
        refine ⟨by rw [hf, if_neg hk, h1], by show (if x.w = n then _ else lookV r n) = _; rw [if_neg hx, h2], fun y hy => ?_⟩
        rcases List.mem_cons.1 hy with hy | hy
        · rw [hy]; exact hx
        · exact h3 y hy
      · right
        refine ⟨x :: a, y, b, by rw [h0]; rfl, h1, fun z hz => ?_, ?_⟩
        · rcases List.mem_cons.1 hz with hz | hz
          · rw [hz]; exact hx
          · exact h2 z hz
        · rw [hf, if_neg hk, h3, List.length_cons]
          congr 2; omega
theorem setV_mid {a b : List VE} {x : VE} {n : Int} {s : Snap} (hx : x.w = n) : setE (.int .i64 n) (.agg ⟨s.cells⟩) (entsV (a ++ x :: b)) a.length = entsV (a ++ ⟨n, s, x.born⟩ :: b) := by
  induction a with
  | nil => subst hx; rfl
  | cons y r ih =>
    show y.entry :: setE _ _ (entsV (r ++ x :: b)) r.length = _
    rw [ih]; rfl
theorem foundV {ve : List VE} {n : Int} {v : Value} {b : Bool} (hf : foundE (.int .i64 n) (entsV ve) (.agg ⟨Snap.zero.cells⟩) v b) : v = .agg ⟨((lookV ve n).getD Snap.zero).cells⟩ ∧ b = (lookV ve n).isSome := by
  rcases ve_find n ve 0 with ⟨h1, h2, _⟩ | ⟨a, x, c, h0, h1, h2, h3⟩
  · rcases hf with ⟨j, hf, _⟩ | ⟨_, rfl, rfl⟩
    · rw [h1] at hf; cases hf
    · rw [h2]; exact ⟨rfl, rfl⟩
  · rcases hf with ⟨j, hf, rfl⟩ | ⟨hf, _⟩
    · rw [h3] at hf
      simp only [Option.some.injEq, Prod.mk.injEq] at hf
      rw [h0, lookV_mid h1 h2, ← hf.2]; exact ⟨rfl, rfl⟩
    · rw [h3] at hf; cases hf
theorem updV {ve : List VE} {n : Int} {s : Snap} {c : Nat} {es' : List MapEntry} {c' : Nat} (hu : updE (.int .i64 n) (.agg ⟨s.cells⟩) (entsV ve) c es' c') : ∃ ve', es' = entsV ve' ∧ ∀ w, lookV ve' w = if w = n then some s else lookV ve w := by
  rcases ve_find n ve 0 with ⟨h1, h2, h4⟩ | ⟨a, x, b, h0, h1, h2, h3⟩
  · rcases hu with ⟨j, v, hf, _⟩ | ⟨_, he, _⟩
    · rw [h1] at hf; cases hf
    · refine ⟨ve ++ [⟨n, s, c⟩], by rw [he]; simp [entsV, VE.entry], fun w => ?_⟩
      by_cases hw : w = n
      · rw [if_pos hw, hw]; exact lookV_mid (b := []) rfl h4
      · rw [if_neg hw]; exact lookV_snoc fun e => hw e.symm
  · rcases hu with ⟨j, v, hf, he, _⟩ | ⟨hf, _⟩
    · rw [h3] at hf
      simp only [Option.some.injEq, Prod.mk.injEq, Nat.zero_add] at hf
      refine ⟨a ++ ⟨n, s, x.born⟩ :: b, by rw [he, ← hf.1, h0, setV_mid h1], fun w => ?_⟩
      by_cases hw : w = n
      · rw [if_pos hw, hw]; exact lookV_mid (x := ⟨n, s, x.born⟩) rfl h2
      · rw [if_neg hw, h0]; exact lookV_other (x := ⟨n, s, x.born⟩) (fun e => hw e.symm) (fun e => hw (h1 ▸ e.symm))
    · rw [h3] at hf; cases hf

/-! ### what Verify finds -/
def lastW (l : List Snap) (w : Int) : Option Snap := (l.filter fun s => decide (s.w = w)).getLast?
def verB (l : List Snap) (i : Nat) : Bool := match l[i]? with
  | some s => validB s && contB s (lastW (l.take i) s.w)
  | .none => true
def verP (l : List Snap) : Int := match (List.range l.length).find? fun i => !verB l i with
  | some i => (i : Int)
  | .none => -1
theorem lastW_step {l : List Snap} {k : Nat} {s : Snap} (h : l[k]? = some s) (w : Int) : lastW (l.take (k + 1)) w = if w = s.w then some s else lastW (l.take k) w := by
  unfold lastW
  rw [List.take_add_one, h, List.filter_append]
  by_cases hw : w = s.w
  · rw [if_pos hw]
    have e : (some s).toList.filter (fun x => decide (x.w = w)) = [s] := by
      show List.filter _ [s] = _
      simp [hw]
    rw [e, List.getLast?_append]; rfl
  · rw [if_neg hw]
    have e : (some s).toList.filter (fun x => decide (x.w = w)) = [] := by
      show List.filter _ [s] = _
      have hd : decide (s.w = w) = false := decide_eq_false fun e => hw e.symm
      simp [hd]
    rw [e, List.append_nil]
theorem verP_at {l : List Snap} {k : Nat} (hk : k < l.length) (h : ∀ i < k, verB l i = true) (hb : verB l k = false) : verP l = (k : Int) := by
  unfold verP
  have e : (List.range l.length).find? (fun i => !verB l i) = some k := by
    refine find_stop (pre := List.range k) ?_ (fun j hj => by rw [h j (by simpa using hj)]; rfl) (by rw [hb]; rfl)
    rw [← List.range_succ]
    exact ⟨(List.range (l.length - (k + 1))).map (k + 1 + ·), by rw [← List.range_add]; congr 1; omega⟩
  rw [e]
theorem verP_all {l : List Snap} (h : ∀ i < l.length, verB l i = true) : verP l = -1 := by
  unfold verP
  have e : (List.range l.length).find? (fun i => !verB l i) = .none := List.find?_eq_none.2 fun i hi => by rw [h i (by simpa using hi)]; decide
  rw [e]

end Go.Proofs.YtoddabjacjkjbaaDoor

namespace Go.Proofs.YtoddabjacjkjbaaDoor
open Go Go.RowKit
set_option linter.unusedVariables false

set_option maxHeartbeats 1000000 in
theorem Verify_ok (R : Rd) (hG : ShaG R) {A : Option Addr} {cap : Nat} {l : List Snap} (hs : SlR R 10 (.slice A l.length cap) l.length (snaps l)) (hn : l.length ≤ 1000000) :
    Fn Tryd.prog 83 [.slice A l.length cap] [] R (fun v h => v = .int .i64 (verP l) ∧ h = []) := by
  have hML := maxLen_eq
  refine fn_of_vc mixed tabOk Tryd.func83 rfl (by kernel_rfl) (Nat.le_of_ble_eq_true rfl) ?_
  intro gm
  refine ⟨[none, none, some 2, none, some 4, some 5, some 6, some 7, none, none, none, some 11, some 12, some 13, some 14, some 15, some 16, some 17, some 18, some 19, some 20, some 21, some 22, some 23, some 24, some 25, some 26, some 27, some 28, some 29, some 30, some 31, some 32, some 33, some 34, some 35, some 36, some 37, some 38], [11], Nat × List VE × Nat, fun ⟨k, ve, _⟩ => k ≤ l.length ∧ (∀ i < k, verB l i = true) ∧ (∀ w, lookV ve w = lastW (l.take k) w) ∧ (∀ w s, lookV ve w = some s → Valid s), fun ⟨k, _, _⟩ => [.int .i64 k],
    fun ⟨_, ve, c⟩ => [.obj gm (.map ⟨entsV ve⟩ c)], fun ⟨k, _, _⟩ => l.length - k, (0, [], 0), ⟨Nat.zero_le _, fun i hi => by omega, fun w => rfl, fun w s h => by cases h⟩, ⟨rfl, trivial⟩, Ent.refl _, ?_⟩
  rintro ⟨k, ve, c⟩ ⟨hk, hv, hl, hva⟩ js
  refine ⟨fun hb => ?_, fun hb => ?_⟩
  · replace hb := of_decide_eq_true hb
    have hil : k < l.length := by omega
    clear hb
    have hget := List.getElem?_eq_getElem hil
    generalize l[k] = s at hget
    have hvb : verB l k = (validB s && contB s (lookV ve s.w)) := by
      unfold verB; rw [hget, hl]
    obtain ⟨a, rfl, hr⟩ := slr_at (c := Snap.cells) (fun _ => rfl) (by omega) hs hget
    refine ⟨by omega, by omega, a, rfl, ?_⟩
    refine ⟨s.cells, fun j u hu => .inl (rdnS (vs := s.cells) (fun j u hu => hr j u hu) j u hu), rfl, ?_⟩
    intro g5
    refine ⟨rfl, rfl, 1, rfl, rfl, Nat.le_of_ble_eq_true rfl, ?_⟩
    refine ⟨_, ld 1 rfl rfl, ?_⟩
    refine ⟨0, rfl, like_entsV _ _, ?_⟩
    rintro v f hf
    obtain ⟨rfl, rfl⟩ := foundV hf
    intro g6
    refine ⟨rfl, rfl, 2, rfl, rfl, Nat.le_of_ble_eq_true rfl, ?_⟩
    refine ⟨s.cells, rdBlk 1 rfl, rfl, ?_⟩
    refine ⟨[], _, valid_ok _ s, ?_⟩
    rintro _ _ ⟨rfl, rfl⟩
    have hpb : ((lookV ve s.w).getD Snap.zero).q ≤ 9223372036854775806 ∧ -9223372036854775808 ≤ ((lookV ve s.w).getD Snap.zero).q ∧ ((lookV ve s.w).isSome = true → Valid ((lookV ve s.w).getD Snap.zero)) := by
      cases hlk : lookV ve s.w with
      | none => exact ⟨by show (0 : Int) ≤ _; omega, by show _ ≤ (0 : Int); omega, fun h => by cases h⟩
      | some p => have := (hva _ _ hlk).q; exact ⟨by show p.q ≤ _; omega, by show _ ≤ p.q; omega, fun _ => hva _ _ hlk⟩
    have hpc : contB s (if (lookV ve s.w).isSome = true then some ((lookV ve s.w).getD Snap.zero) else .none) = contB s (lookV ve s.w) := by
      cases lookV ve s.w <;> rfl
    have hstop : verB l k = false → verP l = (k : Int) := fun h => verP_at hil hv h
    cases hvs : validB s
    · have hr : verP l = (k : Int) := hstop (by rw [hvb, hvs]; rfl)
      rw [hr]
      repeat (first | (refine ⟨fun h => ?_, fun h => ?_⟩; rotate_left 1; (focus (exfalso; (first | (with_reducible (cases h; done)) | (revert h; simp; done) | (revert h; simp; omega) | (revert h; simp [*]; done)))); clear h) | (refine ⟨fun h => ?_, fun h => ?_⟩; (focus (exfalso; (first | (with_reducible (cases h; done)) | (revert h; simp; done) | (revert h; simp; omega) | (revert h; simp [*]; done)))); clear h))
      exact ⟨_, Ent.nil _, rfl, rfl⟩
    · repeat (first | (refine ⟨fun h => ?_, fun h => ?_⟩; rotate_left 1; (focus (exfalso; (first | (with_reducible (cases h; done)) | (revert h; simp; done) | (revert h; simp; omega) | (revert h; simp [*]; done)))); clear h) | (refine ⟨fun h => ?_, fun h => ?_⟩; (focus (exfalso; (first | (with_reducible (cases h; done)) | (revert h; simp; done) | (revert h; simp; omega) | (revert h; simp [*]; done)))); clear h))
      refine ⟨s.cells, rdBlk 1 rfl, rfl, ?_⟩
      repeat (first | (refine ⟨fun h => ?_, fun h => ?_⟩; rotate_left 1; (focus (exfalso; (first | (with_reducible (cases h; done)) | (revert h; simp; done) | (revert h; simp; omega) | (revert h; simp [*]; done)))); clear h) | (refine ⟨fun h => ?_, fun h => ?_⟩; (focus (exfalso; (first | (with_reducible (cases h; done)) | (revert h; simp; done) | (revert h; simp; omega) | (revert h; simp [*]; done)))); clear h))
      refine ⟨((lookV ve s.w).getD Snap.zero).cells, rdBlk 2 rfl, rfl, ?_⟩
      repeat (first | (refine ⟨fun h => ?_, fun h => ?_⟩; rotate_left 1; (focus (exfalso; (first | (with_reducible (cases h; done)) | (revert h; simp; done) | (revert h; simp; omega) | (revert h; simp [*]; done)))); clear h) | (refine ⟨fun h => ?_, fun h => ?_⟩; (focus (exfalso; (first | (with_reducible (cases h; done)) | (revert h; simp; done) | (revert h; simp; omega) | (revert h; simp [*]; done)))); clear h))
      refine ⟨[], _, continues_ok _ (hG.rh _) s _ hpb.1 hpb.2.1 _ hpb.2.2, ?_⟩
      rintro _ _ ⟨rfl, rfl⟩
      rw [hpc]
      cases hc : contB s (lookV ve s.w)
      · have hr : verP l = (k : Int) := hstop (by rw [hvb, hvs, hc]; rfl)
        rw [hr]
        repeat (first | (refine ⟨fun h => ?_, fun h => ?_⟩; rotate_left 1; (focus (exfalso; (first | (with_reducible (cases h; done)) | (revert h; simp; done) | (revert h; simp; omega) | (revert h; simp [*]; done)))); clear h) | (refine ⟨fun h => ?_, fun h => ?_⟩; (focus (exfalso; (first | (with_reducible (cases h; done)) | (revert h; simp; done) | (revert h; simp; omega) | (revert h; simp [*]; done)))); clear h))
        exact ⟨_, Ent.nil _, rfl, rfl⟩
      · have hok : verB l k = true := by rw [hvb, hvs, hc]; rfl
        have hV : Valid s := validB_iff.1 hvs
        repeat (first | (refine ⟨fun h => ?_, fun h => ?_⟩; rotate_left 1; (focus (exfalso; (first | (with_reducible (cases h; done)) | (revert h; simp; done) | (revert h; simp; omega) | (revert h; simp [*]; done)))); clear h) | (refine ⟨fun h => ?_, fun h => ?_⟩; (focus (exfalso; (first | (with_reducible (cases h; done)) | (revert h; simp; done) | (revert h; simp; omega) | (revert h; simp [*]; done)))); clear h))
        refine ⟨_, ld 1 rfl rfl, ?_⟩
        refine ⟨s.cells, rdBlk 1 rfl, rfl, ?_⟩
        refine ⟨0, rfl, like_entsV _ _, ?_⟩
        rintro es' c' hu
        obtain ⟨ve', rfl, hl'⟩ := updV hu
        (intro z hz; obtain rfl : z = ((k + 1 : Nat) : Int) := (by first | (rw [IntKind.wrap_i64] at hz; omega) | (rw [IntKind.wrap_u64] at hz; omega) | omega); clear hz)
        refine ⟨rfl, (k + 1, ve', c'), ⟨hil, fun i hi => ?_, fun w => ?_, fun w p hp => ?_⟩, by show l.length - (k + 1) < l.length - k; omega, ⟨rfl, trivial⟩, Ent.drop [_] [_, _], rfl⟩
        · by_cases hik : i = k
          · rw [hik]; exact hok
          · exact hv i (by omega)
        · rw [lastW_step hget, hl', hl]
        · rw [hl'] at hp
          by_cases hw : w = s.w
          · rw [if_pos hw] at hp; cases hp; exact hV
          · rw [if_neg hw] at hp; exact hva _ _ hp
  · replace hb := of_decide_eq_false hb
    obtain rfl : k = l.length := by omega
    refine ⟨_, Ent.nil _, ?_, rfl⟩
    rw [verP_all hv]; rfl

end Go.Proofs.YtoddabjacjkjbaaDoor

namespace Go.Proofs.YtoddabjacjkjbaaDoor
open Go Go.RowKit
set_option linter.unusedVariables false

theorem good_last {C : Int → List Rec} (hC : GoodC C) {w : Int} {p : Snap} (hp : lastC (C w) = some p) : Valid p := by
  unfold lastC at hp
  rw [List.getLast?_eq_getElem?] at hp
  obtain ⟨y, hy, rfl⟩ := Option.map_eq_some_iff.1 hp
  exact (hC.rcd _ _ _ hy).2.2.2

theorem Next_okL (R : Rd) (hG : ShaG R) {g : Nat} {C : Int → List Rec} {h : Hp} (hL : LogIs g C h) (hC : GoodC C) (hn : countC C ≤ 1000000) (w d : Int) (nm : Str) (gn sz fl bt : Int) :
    Fn Tryd.prog 75 [.pointer (some ⟨g, 0, .none⟩), .int .i64 w, .int .i64 d, .agg ⟨[.string ⟨⟨nm⟩⟩, .int .i64 gn, .int .i64 sz]⟩, .int .i64 fl, .int .i64 bt] h R
      (fun v h' => v = .tuple ⟨[.agg ⟨(nextL (lastC (C w)) w d nm gn sz fl bt).1.cells⟩, .int .i64 (nextL (lastC (C w)) w d nm gn sz fl bt).2]⟩ ∧ LogIs g C h') := by
  obtain ⟨r, st, c, hok, hch, rfl⟩ := hL
  have hCe : chainOf st = C := funext hch
  subst hCe
  have hlen := len_le_count hC.out w
  refine Fn.pre (h0 := [logM r st c] ++ [.blk g 161 [.map (some r)], .rows (rowsOf st)]) (Ent.pick [1, 0, 0] (by exact rfl)) (Fn.ent (Fn.frame (Next_ok _ (hG.rh _) (logR_own 0 1 hok rfl rfl) w d nm gn sz fl bt (by omega) (fun s hs => good_last hC hs))) ?_)
  rintro _ _ ⟨_, rfl, rfl, rfl⟩
  exact ⟨logH g r st c, Ent.pick [0, 1, 0] rfl, rfl, r, st, c, hok, fun _ => rfl, rfl⟩
theorem Latest_okL (R : Rd) {g : Nat} {C : Int → List Rec} {h : Hp} (hL : LogIs g C h) (hC : GoodC C) (hn : countC C ≤ 1000000) (w d : Int) :
    Fn Tryd.prog 81 [.pointer (some ⟨g, 0, .none⟩), .int .i64 w, .int .i64 d] h R
      (fun v h' => v = .tuple ⟨[.agg ⟨(latestC C w d).1.cells⟩, .int .i64 (latestC C w d).2]⟩ ∧ LogIs g C h') := by
  obtain ⟨r, st, c, hok, hch, rfl⟩ := hL
  have hCe : chainOf st = C := funext hch
  subst hCe
  have hlen := len_le_count hC.out w
  refine Fn.pre (h0 := [logM r st c] ++ [.blk g 161 [.map (some r)], .rows (rowsOf st)]) (Ent.pick [1, 0, 0] (by exact rfl)) (Fn.ent (Fn.frame (Latest_ok _ (logR_own 0 1 hok rfl rfl) w d (by omega))) ?_)
  rintro _ _ ⟨_, rfl, rfl, rfl⟩
  exact ⟨logH g r st c, Ent.pick [0, 1, 0] rfl, rfl, r, st, c, hok, fun _ => rfl, rfl⟩
theorem Of_okL (R : Rd) {g : Nat} {C : Int → List Rec} {h : Hp} (hL : LogIs g C h) (hC : GoodC C) (hn : countC C ≤ 1000000) (w : Int) :
    Fn Tryd.prog 82 [.pointer (some ⟨g, 0, .none⟩), .int .i64 w] h R
      (fun v h' => ∃ A cap h1, grow (C w).length A ∧ v = .slice A (C w).length cap ∧ LogIs g C h1 ∧ h' = .row A (C w).length cap 140 10 (snaps ((C w).map Rec.shown)) (0, 0) :: h1) := by
  obtain ⟨r, st, c, hok, hch, rfl⟩ := hL
  have hCe : chainOf st = C := funext hch
  subst hCe
  have hlen := len_le_count hC.out w
  refine Fn.pre (h0 := [logM r st c] ++ [.blk g 161 [.map (some r)], .rows (rowsOf st)]) (Ent.pick [1, 0, 0] (by exact rfl)) (Fn.ent (Fn.frame (Of_ok _ (logR_own 0 1 hok rfl rfl) w (by omega))) ?_)
  rintro _ _ ⟨_, rfl, A, cap, hg, rfl, rfl⟩
  exact ⟨_ :: logH g r st c, Ent.pick [3, 0, 1, 0] rfl, A, cap, _, hg, rfl, ⟨r, st, c, hok, fun _ => rfl, rfl⟩, rfl⟩

/-! ### what a log holds stays good -/
theorem GoodC.empty : GoodC (fun _ => []) := ⟨fun _ _ => rfl, fun _ _ _ h => by simp at h, fun _ _ _ _ h => by simp at h, fun _ _ _ h => by simp at h⟩
theorem updC_same (C : Int → List Rec) (w : Int) (l : List Rec) : updC C w l w = l := if_pos rfl
theorem updC_other (C : Int → List Rec) {w v : Int} (l : List Rec) (h : v ≠ w) : updC C w l v = C v := if_neg h
theorem GoodC.add {C : Int → List Rec} (hC : GoodC C) (s : Snap) : GoodC (addC C s).1 := by
  unfold addC
  by_cases h1 : validB s = true
  · rw [if_pos h1]
    by_cases h2 : s.q ≤ ((C s.w).length : Int)
    · rw [if_pos h2]
      cases (C s.w)[(s.q - 1).toNat]? with
      | none => exact hC
      | some x =>
        show GoodC (if x.s = s.bare then (C, (5 : Int)) else (C, 13)).1
        by_cases h3 : x.s = s.bare
        · rw [if_pos h3]; exact hC
        · rw [if_neg h3]; exact hC
    · rw [if_neg h2]
      by_cases h3 : ((C s.w).length : Int) + 1 < s.q
      · rw [if_pos h3]; exact hC
      · rw [if_neg h3]
        by_cases h4 : contB s (lastC (C s.w)) = true
        · rw [if_pos h4]
          by_cases h5 : 4096 ≤ countC C
          · rw [if_pos h5]; exact hC
          · rw [if_neg h5]
            have hV := validB_iff.1 h1
            have hnew : ∀ {w : Int} {i : Nat} {x : Rec}, (updC C s.w (C s.w ++ [⟨s.bare, false, s.hd⟩]) w)[i]? = some x → (C w)[i]? = some x ∨ (w = s.w ∧ i = (C s.w).length ∧ x = ⟨s.bare, false, s.hd⟩) := by
              intro w i x hx
              by_cases hw : w = s.w
              · rw [hw, updC_same] at hx
                by_cases hi : i < (C s.w).length
                · rw [List.getElem?_append_left hi] at hx
                  rw [hw]; exact .inl hx
                · rw [List.getElem?_append_right (by omega)] at hx
                  by_cases hi2 : i = (C s.w).length
                  · rw [hi2, Nat.sub_self] at hx
                    simp at hx
                    exact .inr ⟨hw, hi2, hx.symm⟩
                  · rw [List.getElem?_eq_none (by simp; omega)] at hx; cases hx
              · rw [updC_other _ _ hw] at hx; exact .inl hx
            refine ⟨fun w hw => ?_, fun w i x hx => ?_, fun w i x y hx hy => ?_, fun w i x hx hf => ?_⟩
            · have hne : w ≠ s.w := fun e => hw (e ▸ hV.w)
              exact (updC_other _ _ hne).trans (hC.out w hw)
            · rcases hnew hx with hx | ⟨hw, hi, rfl⟩
              · exact hC.rcd w i x hx
              · have hq := hV.q
                exact ⟨hw.symm, by show s.q = _; omega, rfl, hV.bare⟩
            · rcases hnew hy with hy | ⟨hw, hi, rfl⟩
              · rcases hnew hx with hx | ⟨hw, hi, rfl⟩
                · exact hC.link w i x y hx hy
                · have := (List.getElem?_eq_some_iff.1 hy).1
                  rw [hw] at this; omega
              · rcases hnew hx with hx | ⟨_, hi2, _⟩
                · have hl : lastC (C s.w) = some x.s := by
                    unfold lastC
                    rw [List.getLast?_eq_getElem?, ← hi, ← hw, Nat.add_sub_cancel, hx]; rfl
                  rw [hl] at h4
                  have h4 : (decide (s.q = x.s.q + 1) && (decide (x.s.d ≤ s.d) && decide (s.pv = sumP x.s))) = true := h4
                  simp only [Bool.and_eq_true, decide_eq_true_eq] at h4
                  exact h4.2
                · omega
            · rcases hnew hx with hx | ⟨_, _, rfl⟩
              · exact hC.mark w i x hx hf
              · cases hf
        · rw [if_neg h4]; exact hC
  · rw [if_neg h1]; exact hC

theorem GoodC.set {C : Int → List Rec} (hC : GoodC C) {w : Int} {i : Nat} {y y' : Rec} (hy : (C w)[i]? = some y) (hs : y'.s = y.s) (hm : y'.fo = true → y'.he = false) : GoodC (updC C w ((C w).set i y')) := by
  have hnew : ∀ {v : Int} {j : Nat} {x : Rec}, (updC C w ((C w).set i y') v)[j]? = some x → ∃ x0, (C v)[j]? = some x0 ∧ x.s = x0.s ∧ (x = x0 ∨ x = y') := by
    intro v j x hx
    by_cases hv : v = w
    · rw [hv, updC_same, List.getElem?_set] at hx
      by_cases hj : i = j
      · have hi := (List.getElem?_eq_some_iff.1 hy).1
        rw [if_pos hj, if_pos hi] at hx
        cases hx
        rw [hv, ← hj]; exact ⟨y, hy, hs, .inr rfl⟩
      · rw [if_neg hj] at hx
        rw [hv]; exact ⟨x, hx, rfl, .inl rfl⟩
    · rw [updC_other _ _ hv] at hx
      exact ⟨x, hx, rfl, .inl rfl⟩
  refine ⟨fun v hv => ?_, fun v j x hx => ?_, fun v j x z hx hz => ?_, fun v j x hx hf => ?_⟩
  · by_cases hvw : v = w
    · have := hC.out v hv
      rw [hvw] at this
      rw [this] at hy; simp at hy
    · exact (updC_other _ _ hvw).trans (hC.out v hv)
  · obtain ⟨x0, h0, h1, _⟩ := hnew hx
    rw [h1]; exact hC.rcd v j x0 h0
  · obtain ⟨x0, h0, h1, _⟩ := hnew hx
    obtain ⟨z0, g0, g1, _⟩ := hnew hz
    rw [h1, g1]; exact hC.link v j x0 z0 h0 g0
  · obtain ⟨x0, h0, h1, h2⟩ := hnew hx
    rcases h2 with rfl | rfl
    · exact hC.mark v j _ h0 hf
    · exact hm hf
theorem findC_some {C : Int → List Rec} {w q : Int} {y : Rec} (h : findC C w q = some y) : (C w)[(q - 1).toNat]? = some y := by
  unfold findC at h
  by_cases h1 : q < 1
  · rw [if_pos h1] at h; cases h
  · rw [if_neg h1] at h; exact h
theorem GoodC.forget {C : Int → List Rec} (hC : GoodC C) (w q : Int) : GoodC (forgetC C w q).1 := by
  unfold forgetC
  cases hf : findC C w q with
  | none => exact hC
  | some x =>
    show GoodC (if x.fo = true then (C, (6 : Int)) else if x.he = true then (C, 14) else (updC C w ((C w).set (q - 1).toNat { x with fo := true }), 0)).1
    by_cases h1 : x.fo = true
    · rw [if_pos h1]; exact hC
    · rw [if_neg h1]
      by_cases h2 : x.he = true
      · rw [if_pos h2]; exact hC
      · rw [if_neg h2]
        exact hC.set (findC_some hf) rfl fun _ => by cases hh : x.he <;> first | rfl | exact absurd hh h2
theorem GoodC.hold {C : Int → List Rec} (hC : GoodC C) (w q : Int) (b : Bool) : GoodC (holdC C w q b).1 := by
  unfold holdC
  cases hf : findC C w q with
  | none => exact hC
  | some x =>
    show GoodC (if x.fo = true then (C, (6 : Int)) else (updC C w ((C w).set (q - 1).toNat { x with he := b }), 0)).1
    by_cases h1 : x.fo = true
    · rw [if_pos h1]; exact hC
    · rw [if_neg h1]
      exact hC.set (findC_some hf) rfl fun h => absurd h h1

end Go.Proofs.YtoddabjacjkjbaaDoor

namespace Go.Proofs.YtoddabjacjkjbaaDoor
open Go Go.RowKit
set_option linter.unusedVariables false

def nm0 : Str := [48, 49, 50, 51, 52, 53, 54, 55, 56, 57, 97, 98, 99, 100, 101, 102, 48, 49, 50, 51, 52, 53, 54, 55, 56, 57, 97, 98, 99, 100, 101, 102]
def aS : Snap := ⟨2, 1, 7, nm0, 0, 5, 3, 100, [], false⟩
def bS : Snap := ⟨2, 2, 7, nm0, 0, 5, 3, 100, sumP aS, false⟩
def C0 : Int → List Rec := fun _ => []
def C1 : Int → List Rec := updC C0 2 [⟨aS, false, false⟩]
def C2 : Int → List Rec := updC C1 2 [⟨aS, false, true⟩]
def C3 : Int → List Rec := updC C2 2 [⟨aS, false, false⟩]
def C4 : Int → List Rec := updC C3 2 [⟨aS, true, false⟩]
theorem aS_valid : validB aS = true := by decide
theorem bS_valid (d : Int) (hd : 0 ≤ d ∧ d ≤ 999999) : validB (nextS (some aS) 2 d nm0 0 5 3 100) = true :=
  validB_iff.2 ⟨(by decide : (0 : Int) ≤ 2 ∧ (2 : Int) ≤ 11), (by decide : (1 : Int) ≤ 2 ∧ (2 : Int) ≤ 1099511627776), hd, (by decide : nm0.length = 32), (by decide : (0 : Int) ≤ 0 ∧ (0 : Int) ≤ 1099511627776), (by decide : (0 : Int) ≤ 5 ∧ (5 : Int) ≤ 65536),
    (by decide : (0 : Int) ≤ 3 ∧ (3 : Int) ≤ 4096), (by decide : (0 : Int) ≤ 100 ∧ (100 : Int) ≤ 1099511627776), fun h => absurd h (by decide : ¬ (2 : Int) = 1), fun _ => sumP_length aS⟩
theorem E1 : nextL (lastC (C0 2)) 2 7 nm0 0 5 3 100 = (aS, 0) := rfl
theorem E2 : addC C0 aS = (C1, 0) := rfl
theorem E3 : nextL (lastC (C1 2)) 2 6 nm0 0 5 3 100 = (Snap.zero, 13) := by
  show nextL (some aS) 2 6 nm0 0 5 3 100 = _
  unfold nextL
  rw [if_pos (bS_valid 6 (by decide))]; rfl
theorem E4 : nextL (lastC (C1 2)) 2 7 nm0 0 5 3 100 = (bS, 0) := by
  show nextL (some aS) 2 7 nm0 0 5 3 100 = _
  unfold nextL
  rw [if_pos (bS_valid 7 (by decide))]; rfl
theorem E6 : holdC C1 2 1 true = (C2, 0) := rfl
theorem E7 : forgetC C2 2 1 = (C2, 14) := rfl
theorem E8 : holdC C2 2 1 false = (C3, 0) := rfl
theorem E9 : forgetC C3 2 1 = (C4, 0) := rfl
theorem E10 : forgetC C4 2 1 = (C4, 6) := rfl
theorem E11 : latestC C4 2 6 = (Snap.zero, 4) := rfl
theorem E13 : verP [aS, bS] = -1 := by
  refine verP_all fun i hi => ?_
  have hi : i < 2 := hi
  rcases (by omega : i = 0 ∨ i = 1) with rfl | rfl
  · decide
  · show (validB bS && contB bS (some aS)) = true
    have h1 : validB bS = true := bS_valid 7 (by decide)
    rw [h1]
    show (decide (bS.q = aS.q + 1) && (decide (aS.d ≤ bS.d) && decide (bS.pv = sumP aS))) = true
    rw [decide_eq_true (show bS.pv = sumP aS from rfl)]; decide
theorem G0 : GoodC C0 := GoodC.empty
theorem G1 : GoodC C1 := by have := G0.add aS; rw [E2] at this; exact this
theorem G2 : GoodC C2 := by have := G1.hold 2 1 true; rw [E6] at this; exact this
theorem G3 : GoodC C3 := by have := G2.hold 2 1 false; rw [E8] at this; exact this
theorem G4 : GoodC C4 := by have := G3.forget 2 1; rw [E9] at this; exact this

theorem N1 (R : Rd) (hG : ShaG R) {g : Nat} {h : Hp} (hL : LogIs g C0 h) : Fn Tryd.prog 75 [.pointer (some ⟨g, 0, .none⟩), .int .i64 2, .int .i64 7, .agg ⟨[.string ⟨⟨nm0⟩⟩, .int .i64 0, .int .i64 5]⟩, .int .i64 3, .int .i64 100] h R (fun v h' => v = .tuple ⟨[.agg ⟨aS.cells⟩, .int .i64 0]⟩ ∧ LogIs g C0 h') := by
  have := Next_okL R hG hL G0 (by decide) 2 7 nm0 0 5 3 100
  rw [E1] at this
  exact this
theorem N2 (R : Rd) (hG : ShaG R) {g : Nat} {h : Hp} (hL : LogIs g C1 h) : Fn Tryd.prog 75 [.pointer (some ⟨g, 0, .none⟩), .int .i64 2, .int .i64 6, .agg ⟨[.string ⟨⟨nm0⟩⟩, .int .i64 0, .int .i64 5]⟩, .int .i64 3, .int .i64 100] h R (fun v h' => v = .tuple ⟨[.agg ⟨Snap.zero.cells⟩, .int .i64 13]⟩ ∧ LogIs g C1 h') := by
  have := Next_okL R hG hL G1 (by decide) 2 6 nm0 0 5 3 100
  rw [E3] at this
  exact this
theorem N3 (R : Rd) (hG : ShaG R) {g : Nat} {h : Hp} (hL : LogIs g C1 h) : Fn Tryd.prog 75 [.pointer (some ⟨g, 0, .none⟩), .int .i64 2, .int .i64 7, .agg ⟨[.string ⟨⟨nm0⟩⟩, .int .i64 0, .int .i64 5]⟩, .int .i64 3, .int .i64 100] h R (fun v h' => v = .tuple ⟨[.agg ⟨bS.cells⟩, .int .i64 0]⟩ ∧ LogIs g C1 h') := by
  have := Next_okL R hG hL G1 (by decide) 2 7 nm0 0 5 3 100
  rw [E4] at this
  exact this
theorem A1 (R : Rd) (hG : ShaG R) {g : Nat} {h : Hp} (hL : LogIs g C0 h) : Fn Tryd.prog 77 [.pointer (some ⟨g, 0, .none⟩), .agg ⟨aS.cells⟩] h R (fun v h' => v = .int .i64 0 ∧ LogIs g C1 h') := by
  have := Add_ok R hG hL G0 (by decide) aS (validB_iff.1 aS_valid).ok
  rw [E2] at this
  exact this
theorem H1 (R : Rd) {g : Nat} {h : Hp} (hL : LogIs g C1 h) : Fn Tryd.prog 79 [.pointer (some ⟨g, 0, .none⟩), .int .i64 2, .int .i64 1, .bool true] h R (fun v h' => v = .int .i64 0 ∧ LogIs g C2 h') := by
  have := Hold_ok R hL G1 (by decide) 2 1 true
  rw [E6] at this
  exact this
theorem F1 (R : Rd) {g : Nat} {h : Hp} (hL : LogIs g C2 h) : Fn Tryd.prog 80 [.pointer (some ⟨g, 0, .none⟩), .int .i64 2, .int .i64 1] h R (fun v h' => v = .int .i64 14 ∧ LogIs g C2 h') := by
  have := Forget_ok R hL G2 (by decide) 2 1
  rw [E7] at this
  exact this
theorem H2 (R : Rd) {g : Nat} {h : Hp} (hL : LogIs g C2 h) : Fn Tryd.prog 79 [.pointer (some ⟨g, 0, .none⟩), .int .i64 2, .int .i64 1, .bool false] h R (fun v h' => v = .int .i64 0 ∧ LogIs g C3 h') := by
  have := Hold_ok R hL G2 (by decide) 2 1 false
  rw [E8] at this
  exact this
theorem F2 (R : Rd) {g : Nat} {h : Hp} (hL : LogIs g C3 h) : Fn Tryd.prog 80 [.pointer (some ⟨g, 0, .none⟩), .int .i64 2, .int .i64 1] h R (fun v h' => v = .int .i64 0 ∧ LogIs g C4 h') := by
  have := Forget_ok R hL G3 (by decide) 2 1
  rw [E9] at this
  exact this
theorem F3 (R : Rd) {g : Nat} {h : Hp} (hL : LogIs g C4 h) : Fn Tryd.prog 80 [.pointer (some ⟨g, 0, .none⟩), .int .i64 2, .int .i64 1] h R (fun v h' => v = .int .i64 6 ∧ LogIs g C4 h') := by
  have := Forget_ok R hL G4 (by decide) 2 1
  rw [E10] at this
  exact this
theorem L1 (R : Rd) {g : Nat} {h : Hp} (hL : LogIs g C4 h) : Fn Tryd.prog 81 [.pointer (some ⟨g, 0, .none⟩), .int .i64 2, .int .i64 6] h R (fun v h' => v = .tuple ⟨[.agg ⟨Snap.zero.cells⟩, .int .i64 4]⟩ ∧ LogIs g C4 h') := by
  have := Latest_okL R hL G4 (by decide) 2 6
  rw [E11] at this
  exact this
theorem S1 (R : Rd) (hG : ShaG R) : Fn Tryd.prog 78 [.agg ⟨aS.cells⟩] [] R (fun v h => v = .tuple ⟨[.string ⟨⟨sumP aS⟩⟩, .int .i64 0]⟩ ∧ h = []) := by
  have := Sum_okS R hG aS
  rw [if_pos aS_valid, if_pos aS_valid] at this
  exact this
theorem O1 (R : Rd) {g : Nat} {h : Hp} (hL : LogIs g C4 h) : Fn Tryd.prog 82 [.pointer (some ⟨g, 0, .none⟩), .int .i64 2] h R (fun v h' => ∃ A cap h1 xs, v = .slice A 1 cap ∧ LogIs g C4 h1 ∧ h' = .row A 1 cap 140 10 xs (0, 0) :: h1) :=
  Fn.ent (Of_okL R hL G4 (by decide) 2) fun v h' hq => by
    obtain ⟨A, cap, h1, _, hv, hl, hh⟩ := hq
    exact ⟨h', Ent.refl _, A, cap, h1, _, hv, hl, hh⟩
theorem V1 (R : Rd) (hG : ShaG R) {A : Option Addr} {cap : Nat} (hs : SlR R 10 (.slice A 2 cap) 2 (snaps [aS, bS])) : Fn Tryd.prog 83 [.slice A 2 cap] [] R (fun v h => v = .int .i64 (-1) ∧ h = []) := by
  have := Verify_ok R hG (l := [aS, bS]) hs (by decide)
  rw [E13] at this
  exact this
theorem root_ok (R : Rd) : Fn Tryd.prog 76 [] [] R (fun v h => v = .agg ⟨[.string ⟨⟨nm0⟩⟩, .int .i64 0, .int .i64 5]⟩ ∧ h = []) := by
  refine fn_of_vc mixed tabOk Tryd.func76 rfl (by kernel_rfl) (Nat.le_of_ble_eq_true rfl) ?_
  intro g1
  refine ⟨rfl, rfl, 0, rfl, rfl, Nat.le_of_ble_eq_true rfl, ?_⟩
  refine ⟨[.string ⟨⟨nm0⟩⟩, .int .i64 0, .int .i64 5], rdBlk 0 rfl, rfl, ?_⟩
  exact ⟨_, Ent.nil _, rfl, rfl⟩

set_option maxRecDepth 100000 in
set_option maxHeartbeats 4000000 in
theorem awake26_ok (R : Rd) (hG : ShaG R) : Fn Tryd.prog 31 [] [] R (fun v h => v = .bool true ∧ h = []) := by
  have hsl := sumP_length aS
  refine fn_of_vc mixed tabOk Tryd.func31 rfl (by kernel_rfl) (Nat.le_of_ble_eq_true rfl) ?_
  refine ⟨[], _, New_okS _, ?_⟩
  rintro _ _ ⟨g, rfl, r, st, c, hok, hch, rfl⟩
  refine ⟨[], _, root_ok _, ?_⟩
  rintro _ _ ⟨rfl, rfl⟩
  refine ⟨[0, 0, 0], _, N1 _ (hG.rh _) ⟨r, st, c, hok, hch, rfl⟩, ?_⟩
  rintro _ _ ⟨rfl, r, st, c, hok, hch, rfl⟩
  intro g2
  refine ⟨rfl, rfl, 3, rfl, rfl, Nat.le_of_ble_eq_true rfl, ?_⟩
  repeat (first | (refine ⟨fun h => ?_, fun h => ?_⟩; rotate_left 1; (focus (exfalso; (first | (with_reducible (cases h; done)) | (revert h; simp; done) | (revert h; simp; omega) | (revert h; simp [*]; done)))); clear h) | (refine ⟨fun h => ?_, fun h => ?_⟩; (focus (exfalso; (first | (with_reducible (cases h; done)) | (revert h; simp; done) | (revert h; simp; omega) | (revert h; simp [*]; done)))); clear h))
  refine ⟨.int .i64 1, ld 3 rfl rfl, ?_⟩
  repeat (first | (refine ⟨fun h => ?_, fun h => ?_⟩; rotate_left 1; (focus (exfalso; (first | (with_reducible (cases h; done)) | (revert h; simp; done) | (revert h; simp; omega) | (revert h; simp [*]; done)))); clear h) | (refine ⟨fun h => ?_, fun h => ?_⟩; (focus (exfalso; (first | (with_reducible (cases h; done)) | (revert h; simp; done) | (revert h; simp; omega) | (revert h; simp [*]; done)))); clear h))
  refine ⟨.int .i64 7, ld 3 rfl rfl, ?_⟩
  repeat (first | (refine ⟨fun h => ?_, fun h => ?_⟩; rotate_left 1; (focus (exfalso; (first | (with_reducible (cases h; done)) | (revert h; simp; done) | (revert h; simp; omega) | (revert h; simp [*]; done)))); clear h) | (refine ⟨fun h => ?_, fun h => ?_⟩; (focus (exfalso; (first | (with_reducible (cases h; done)) | (revert h; simp; done) | (revert h; simp; omega) | (revert h; simp [*]; done)))); clear h))
  refine ⟨.string ⟨⟨[]⟩⟩, ld 3 rfl rfl, ?_⟩
  repeat (first | (refine ⟨fun h => ?_, fun h => ?_⟩; rotate_left 1; (focus (exfalso; (first | (with_reducible (cases h; done)) | (revert h; simp; done) | (revert h; simp; omega) | (revert h; simp [*]; done)))); clear h) | (refine ⟨fun h => ?_, fun h => ?_⟩; (focus (exfalso; (first | (with_reducible (cases h; done)) | (revert h; simp; done) | (revert h; simp; omega) | (revert h; simp [*]; done)))); clear h))
  refine ⟨aS.cells, rdBlk 3 rfl, rfl, ?_⟩
  repeat (first | (refine ⟨fun h => ?_, fun h => ?_⟩; rotate_left 1; (focus (exfalso; (first | (with_reducible (cases h; done)) | (revert h; simp; done) | (revert h; simp; omega) | (revert h; simp [*]; done)))); clear h) | (refine ⟨fun h => ?_, fun h => ?_⟩; (focus (exfalso; (first | (with_reducible (cases h; done)) | (revert h; simp; done) | (revert h; simp; omega) | (revert h; simp [*]; done)))); clear h))
  refine ⟨[0, 0, 0], _, A1 _ (hG.rh _) ⟨r, st, c, hok, hch, rfl⟩, ?_⟩
  rintro _ _ ⟨rfl, r, st, c, hok, hch, rfl⟩
  repeat (first | (refine ⟨fun h => ?_, fun h => ?_⟩; rotate_left 1; (focus (exfalso; (first | (with_reducible (cases h; done)) | (revert h; simp; done) | (revert h; simp; omega) | (revert h; simp [*]; done)))); clear h) | (refine ⟨fun h => ?_, fun h => ?_⟩; (focus (exfalso; (first | (with_reducible (cases h; done)) | (revert h; simp; done) | (revert h; simp; omega) | (revert h; simp [*]; done)))); clear h))
  refine ⟨[], _, root_ok _, ?_⟩
  rintro _ _ ⟨rfl, rfl⟩
  refine ⟨[1, 1, 1], _, N2 _ (hG.rh _) ⟨r, st, c, hok, hch, rfl⟩, ?_⟩
  rintro _ _ ⟨rfl, r, st, c, hok, hch, rfl⟩
  intro g4
  refine ⟨rfl, rfl, 4, rfl, rfl, Nat.le_of_ble_eq_true rfl, ?_⟩
  refine ⟨[], _, root_ok _, ?_⟩
  rintro _ _ ⟨rfl, rfl⟩
  refine ⟨[1, 1, 1], _, N3 _ (hG.rh _) ⟨r, st, c, hok, hch, rfl⟩, ?_⟩
  rintro _ _ ⟨rfl, r, st, c, hok, hch, rfl⟩
  intro g6
  refine ⟨rfl, rfl, 5, rfl, rfl, Nat.le_of_ble_eq_true rfl, ?_⟩
  refine ⟨aS.cells, rdBlk 0 rfl, rfl, ?_⟩
  refine ⟨[], _, S1 _ (hG.rh _), ?_⟩
  rintro _ _ ⟨rfl, rfl⟩
  repeat (first | (refine ⟨fun h => ?_, fun h => ?_⟩; rotate_left 1; (focus (exfalso; (first | (with_reducible (cases h; done)) | (revert h; simp; done) | (revert h; simp; omega) | (revert h; simp [*]; done)))); clear h) | (refine ⟨fun h => ?_, fun h => ?_⟩; (focus (exfalso; (first | (with_reducible (cases h; done)) | (revert h; simp; done) | (revert h; simp; omega) | (revert h; simp [*]; done)))); clear h))
  refine ⟨.int .i64 2, ld 5 rfl rfl, ?_⟩
  repeat (first | (refine ⟨fun h => ?_, fun h => ?_⟩; rotate_left 1; (focus (exfalso; (first | (with_reducible (cases h; done)) | (revert h; simp; done) | (revert h; simp; omega) | (revert h; simp [*]; done)))); clear h) | (refine ⟨fun h => ?_, fun h => ?_⟩; (focus (exfalso; (first | (with_reducible (cases h; done)) | (revert h; simp; done) | (revert h; simp; omega) | (revert h; simp [*]; done)))); clear h))
  refine ⟨.string ⟨⟨sumP aS⟩⟩, ld 5 rfl rfl, ?_⟩
  repeat (first | (refine ⟨fun h => ?_, fun h => ?_⟩; rotate_left 1; (focus (exfalso; (first | (with_reducible (cases h; done)) | (revert h; simp; done) | (revert h; simp; omega) | (revert h; simp [*]; done)))); clear h) | (refine ⟨fun h => ?_, fun h => ?_⟩; (focus (exfalso; (first | (with_reducible (cases h; done)) | (revert h; simp; done) | (revert h; simp; omega) | (revert h; simp [*]; done)))); clear h))
  refine ⟨[2, 2, 2], _, H1 _ ⟨r, st, c, hok, hch, rfl⟩, ?_⟩
  rintro _ _ ⟨rfl, r, st, c, hok, hch, rfl⟩
  repeat (first | (refine ⟨fun h => ?_, fun h => ?_⟩; rotate_left 1; (focus (exfalso; (first | (with_reducible (cases h; done)) | (revert h; simp; done) | (revert h; simp; omega) | (revert h; simp [*]; done)))); clear h) | (refine ⟨fun h => ?_, fun h => ?_⟩; (focus (exfalso; (first | (with_reducible (cases h; done)) | (revert h; simp; done) | (revert h; simp; omega) | (revert h; simp [*]; done)))); clear h))
  refine ⟨[3, 3, 3], _, F1 _ ⟨r, st, c, hok, hch, rfl⟩, ?_⟩
  rintro _ _ ⟨rfl, r, st, c, hok, hch, rfl⟩
  repeat (first | (refine ⟨fun h => ?_, fun h => ?_⟩; rotate_left 1; (focus (exfalso; (first | (with_reducible (cases h; done)) | (revert h; simp; done) | (revert h; simp; omega) | (revert h; simp [*]; done)))); clear h) | (refine ⟨fun h => ?_, fun h => ?_⟩; (focus (exfalso; (first | (with_reducible (cases h; done)) | (revert h; simp; done) | (revert h; simp; omega) | (revert h; simp [*]; done)))); clear h))
  refine ⟨[3, 3, 3], _, H2 _ ⟨r, st, c, hok, hch, rfl⟩, ?_⟩
  rintro _ _ ⟨rfl, r, st, c, hok, hch, rfl⟩
  repeat (first | (refine ⟨fun h => ?_, fun h => ?_⟩; rotate_left 1; (focus (exfalso; (first | (with_reducible (cases h; done)) | (revert h; simp; done) | (revert h; simp; omega) | (revert h; simp [*]; done)))); clear h) | (refine ⟨fun h => ?_, fun h => ?_⟩; (focus (exfalso; (first | (with_reducible (cases h; done)) | (revert h; simp; done) | (revert h; simp; omega) | (revert h; simp [*]; done)))); clear h))
  refine ⟨[3, 3, 3], _, F2 _ ⟨r, st, c, hok, hch, rfl⟩, ?_⟩
  rintro _ _ ⟨rfl, r, st, c, hok, hch, rfl⟩
  repeat (first | (refine ⟨fun h => ?_, fun h => ?_⟩; rotate_left 1; (focus (exfalso; (first | (with_reducible (cases h; done)) | (revert h; simp; done) | (revert h; simp; omega) | (revert h; simp [*]; done)))); clear h) | (refine ⟨fun h => ?_, fun h => ?_⟩; (focus (exfalso; (first | (with_reducible (cases h; done)) | (revert h; simp; done) | (revert h; simp; omega) | (revert h; simp [*]; done)))); clear h))
  refine ⟨[3, 3, 3], _, F3 _ ⟨r, st, c, hok, hch, rfl⟩, ?_⟩
  rintro _ _ ⟨rfl, r, st, c, hok, hch, rfl⟩
  repeat (first | (refine ⟨fun h => ?_, fun h => ?_⟩; rotate_left 1; (focus (exfalso; (first | (with_reducible (cases h; done)) | (revert h; simp; done) | (revert h; simp; omega) | (revert h; simp [*]; done)))); clear h) | (refine ⟨fun h => ?_, fun h => ?_⟩; (focus (exfalso; (first | (with_reducible (cases h; done)) | (revert h; simp; done) | (revert h; simp; omega) | (revert h; simp [*]; done)))); clear h))
  refine ⟨[3, 3, 3], _, L1 _ ⟨r, st, c, hok, hch, rfl⟩, ?_⟩
  rintro _ _ ⟨rfl, r, st, c, hok, hch, rfl⟩
  intro g10
  refine ⟨rfl, rfl, 6, rfl, rfl, Nat.le_of_ble_eq_true rfl, ?_⟩
  repeat (first | (refine ⟨fun h => ?_, fun h => ?_⟩; rotate_left 1; (focus (exfalso; (first | (with_reducible (cases h; done)) | (revert h; simp; done) | (revert h; simp; omega) | (revert h; simp [*]; done)))); clear h) | (refine ⟨fun h => ?_, fun h => ?_⟩; (focus (exfalso; (first | (with_reducible (cases h; done)) | (revert h; simp; done) | (revert h; simp; omega) | (revert h; simp [*]; done)))); clear h))
  refine ⟨[3, 3, 3], _, O1 _ ⟨r, st, c, hok, hch, rfl⟩, ?_⟩
  rintro _ _ ⟨A, cap, h1, xs, rfl, ⟨r, st, c, hok, hch, rfl⟩, rfl⟩
  repeat (first | (refine ⟨fun h => ?_, fun h => ?_⟩; rotate_left 1; (focus (exfalso; (first | (with_reducible (cases h; done)) | (revert h; simp; done) | (revert h; simp; omega) | (revert h; simp [*]; done)))); clear h) | (refine ⟨fun h => ?_, fun h => ?_⟩; (focus (exfalso; (first | (with_reducible (cases h; done)) | (revert h; simp; done) | (revert h; simp; omega) | (revert h; simp [*]; done)))); clear h))
  refine ⟨aS.cells, rdBlk 0 rfl, rfl, ?_⟩
  repeat (first | (refine ⟨fun h => ?_, fun h => ?_⟩; rotate_left 1; (focus (exfalso; (first | (with_reducible (cases h; done)) | (revert h; simp; done) | (revert h; simp; omega) | (revert h; simp [*]; done)))); clear h) | (refine ⟨fun h => ?_, fun h => ?_⟩; (focus (exfalso; (first | (with_reducible (cases h; done)) | (revert h; simp; done) | (revert h; simp; omega) | (revert h; simp [*]; done)))); clear h))
  refine ⟨bS.cells, rdBlk 2 rfl, rfl, ?_⟩
  repeat (first | (refine ⟨fun h => ?_, fun h => ?_⟩; rotate_left 1; (focus (exfalso; (first | (with_reducible (cases h; done)) | (revert h; simp; done) | (revert h; simp; omega) | (revert h; simp [*]; done)))); clear h) | (refine ⟨fun h => ?_, fun h => ?_⟩; (focus (exfalso; (first | (with_reducible (cases h; done)) | (revert h; simp; done) | (revert h; simp; omega) | (revert h; simp [*]; done)))); clear h))
  refine ⟨rfl, fun gv => ?_⟩
  repeat (first | (refine ⟨fun h => ?_, fun h => ?_⟩; rotate_left 1; (focus (exfalso; (first | (with_reducible (cases h; done)) | (revert h; simp; done) | (revert h; simp; omega) | (revert h; simp [*]; done)))); clear h) | (refine ⟨fun h => ?_, fun h => ?_⟩; (focus (exfalso; (first | (with_reducible (cases h; done)) | (revert h; simp; done) | (revert h; simp; omega) | (revert h; simp [*]; done)))); clear h))
  refine ⟨[], _, V1 _ (hG.rh _) (SlR.own 8 rfl rfl (.inr ⟨gv, rfl⟩)), ?_⟩
  rintro _ _ ⟨rfl, rfl⟩
  repeat (first | (refine ⟨fun h => ?_, fun h => ?_⟩; rotate_left 1; (focus (exfalso; (first | (with_reducible (cases h; done)) | (revert h; simp; done) | (revert h; simp; omega) | (revert h; simp [*]; done)))); clear h) | (refine ⟨fun h => ?_, fun h => ?_⟩; (focus (exfalso; (first | (with_reducible (cases h; done)) | (revert h; simp; done) | (revert h; simp; omega) | (revert h; simp [*]; done)))); clear h))
  exact ⟨_, Ent.nil _, rfl, rfl⟩

end Go.Proofs.YtoddabjacjkjbaaDoor
