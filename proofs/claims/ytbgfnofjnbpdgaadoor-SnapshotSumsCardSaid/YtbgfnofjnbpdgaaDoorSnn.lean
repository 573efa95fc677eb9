/-
  Contract: Verify of a list of records.
-/
import Derived.Test.YtbgfnofjnbpdgaaDoorSnm
namespace Go.Proofs.YtbgfnofjnbpdgaaDoor
open Go Go.RowKit
set_option linter.unusedVariables false

/-! ### a map from writers to records -/
structure VE where
  w : Int
  s : Snap
  born : Nat
def VE.entry (x : VE) : MapEntry := ⟨.int .i64 x.w, .agg ⟨x.s.cells⟩, x.born⟩
def entsV (ve : List VE) : List MapEntry := ve.map VE.entry
def lookV : List VE → Int → Option Snap
  | [], _ => .none
  | x :: r, n => if x.w = n then some x.s else lookV r n
theorem like_entsV (ve : List VE) (n : Int) : ∀ e ∈ entsV ve, likeKey (.int .i64 n) e.key = true := by
  intro e he
  obtain ⟨x, _, rfl⟩ := List.mem_map.1 he
  rfl
theorem lookV_mid {a b : List VE} {x : VE} {n : Int} (hx : x.w = n) (ha : ∀ y ∈ a, y.w ≠ n) : lookV (a ++ x :: b) n = some x.s := by
  induction a with
  | nil => exact if_pos hx
  | cons y r ih =>
    show (if y.w = n then _ else lookV (r ++ x :: b) n) = _
    rw [if_neg (ha y (by simp))]
    exact ih fun z hz => ha z (by simp [hz])
theorem lookV_other {a b : List VE} {x y : VE} {n : Int} (hx : x.w ≠ n) (hy : y.w ≠ n) : lookV (a ++ x :: b) n = lookV (a ++ y :: b) n := by
  induction a with
  | nil =>
    show (if x.w = n then _ else lookV b n) = (if y.w = n then _ else lookV b n)
    rw [if_neg hx, if_neg hy]
  | cons z r ih =>
    show (if z.w = n then _ else lookV (r ++ x :: b) n) = (if z.w = n then _ else lookV (r ++ y :: b) n)
    rw [ih]
theorem lookV_snoc {a : List VE} {y : VE} {n : Int} (hy : y.w ≠ n) : lookV (a ++ [y]) n = lookV a n := by
  induction a with
  | nil => exact if_neg hy
  | cons z r ih =>
    show (if z.w = n then _ else lookV (r ++ [y]) n) = (if z.w = n then _ else lookV r n)
    rw [ih]
theorem ve_find (n : Int) : ∀ (ve : List VE) (i : Nat), (findE (.int .i64 n) (entsV ve) i = .none ∧ lookV ve n = .none ∧ ∀ y ∈ ve, y.w ≠ n) ∨
    ∃ a x b, ve = a ++ x :: b ∧ x.w = n ∧ (∀ y ∈ a, y.w ≠ n) ∧ findE (.int .i64 n) (entsV ve) i = some (i + a.length, .agg ⟨x.s.cells⟩)
  | [], i => .inl ⟨rfl, rfl, fun y hy => by simp at hy⟩
  | x :: r, i => by
    have hf : findE (.int .i64 n) (entsV (x :: r)) i = if sameKey (.int .i64 n) x.entry.key = true then some (i, x.entry.val) else findE (.int .i64 n) (entsV r) (i + 1) := by
      show findE _ (x.entry :: entsV r) i = _
      rw [findE]
      cases sameKey (.int .i64 n) x.entry.key <;> rfl
    by_cases hx : x.w = n
    · right
      refine ⟨[], x, r, rfl, hx, fun y hy => by simp at hy, ?_⟩
      have hk : sameKey (.int .i64 n) x.entry.key = true := decide_eq_true hx.symm
      rw [hf, if_pos hk]; rfl
    · have hk : ¬ sameKey (.int .i64 n) x.entry.key = true := fun e => hx (of_decide_eq_true e).symm
      rcases ve_find n r (i + 1) with ⟨h1, h2, h3⟩ | ⟨a, y, b, h0, h1, h2, h3⟩
      · left
        refine ⟨by rw [hf, if_neg hk, h1], by show (if x.w = n then _ else lookV r n) = _; rw [if_neg hx, h2], fun y hy => ?_⟩
        rcases List.mem_cons.1 hy with hy | hy
        · rw [hy]; exact hx
        · exact h3 y hy
      · right
        refine ⟨x :: a, y, b, by rw [h0]; rfl, h1, fun z hz => ?_, ?_⟩
        · rcases List.mem_cons.1 hz with hz | hz
          · rw [hz]; exact hx
          · exact h2 z hz
        · rw [hf, if_neg hk, h3, List.length_cons]
          congr 2; omega
theorem setV_mid {a b : List VE} {x : VE} {n : Int} {s : Snap} (hx : x.w = n) : setE (.int .i64 n) (.agg ⟨s.cells⟩) (entsV (a ++ x :: b)) a.length = entsV (a ++ ⟨n, s, x.born⟩ :: b) := by
  induction a with
  | nil => subst hx; rfl
  | cons y r ih =>
    show y.entry :: setE _ _ (entsV (r ++ x :: b)) r.length = _
    rw [ih]; rfl
theorem foundV {ve : List VE} {n : Int} {v : Value} {b : Bool} (hf : foundE (.int .i64 n) (entsV ve) (.agg ⟨Snap.zero.cells⟩) v b) : v = .agg ⟨((lookV ve n).getD Snap.zero).cells⟩ ∧ b = (lookV ve n).isSome := by
  rcases ve_find n ve 0 with ⟨h1, h2, _⟩ | ⟨a, x, c, h0, h1, h2, h3⟩
  · rcases hf with ⟨j, hf, _⟩ | ⟨_, rfl, rfl⟩
    · rw [h1] at hf; cases hf
    · rw [h2]; exact ⟨rfl, rfl⟩
  · rcases hf with ⟨j, hf, rfl⟩ | ⟨hf, _⟩
    · rw [h3] at hf
      simp only [Option.some.injEq, Prod.mk.injEq] at hf
      rw [h0, lookV_mid h1 h2, ← hf.2]; exact ⟨rfl, rfl⟩
    · rw [h3] at hf; cases hf
theorem updV {ve : List VE} {n : Int} {s : Snap} {c : Nat} {es' : List MapEntry} {c' : Nat} (hu : updE (.int .i64 n) (.agg ⟨s.cells⟩) (entsV ve) c es' c') : ∃ ve', es' = entsV ve' ∧ ∀ w, lookV ve' w = if w = n then some s else lookV ve w := by
  rcases ve_find n ve 0 with ⟨h1, h2, h4⟩ | ⟨a, x, b, h0, h1, h2, h3⟩
  · rcases hu with ⟨j, v, hf, _⟩ | ⟨_, he, _⟩
    · rw [h1] at hf; cases hf
    · refine ⟨ve ++ [⟨n, s, c⟩], by rw [he]; simp [entsV, VE.entry], fun w => ?_⟩
      by_cases hw : w = n
      · rw [if_pos hw, hw]; exact lookV_mid (b := []) rfl h4
      · rw [if_neg hw]; exact lookV_snoc fun e => hw e.symm
  · rcases hu with ⟨j, v, hf, he, _⟩ | ⟨hf, _⟩
    · rw [h3] at hf
      simp only [Option.some.injEq, Prod.mk.injEq, Nat.zero_add] at hf
      refine ⟨a ++ ⟨n, s, x.born⟩ :: b, by rw [he, ← hf.1, h0, setV_mid h1], fun w => ?_⟩
      by_cases hw : w = n
      · rw [if_pos hw, hw]; exact lookV_mid (x := ⟨n, s, x.born⟩) rfl h2
      · rw [if_neg hw, h0]; exact lookV_other (x := ⟨n, s, x.born⟩) (fun e => hw e.symm) (fun e => hw (h1 ▸ e.symm))
    · rw [h3] at hf; cases hf

/-! ### what Verify finds -/
def lastW (l : List Snap) (w : Int) : Option Snap := (l.filter fun s => decide (s.w = w)).getLast?
def verB (l : List Snap) (i : Nat) : Bool := match l[i]? with
  | some s => validB s && contB s (lastW (l.take i) s.w)
  | .none => true
def verP (l : List Snap) : Int := match (List.range l.length).find? fun i => !verB l i with
  | some i => (i : Int)
  | .none => -1
theorem lastW_step {l : List Snap} {k : Nat} {s : Snap} (h : l[k]? = some s) (w : Int) : lastW (l.take (k + 1)) w = if w = s.w then some s else lastW (l.take k) w := by
  unfold lastW
  rw [List.take_add_one, h, List.filter_append]
  by_cases hw : w = s.w
  · rw [if_pos hw]
    have e : (some s).toList.filter (fun x => decide (x.w = w)) = [s] := by
      show List.filter _ [s] = _
      simp [hw]
    rw [e, List.getLast?_append]; rfl
  · rw [if_neg hw]
    have e : (some s).toList.filter (fun x => decide (x.w = w)) = [] := by
      show List.filter _ [s] = _
      have hd : decide (s.w = w) = false := decide_eq_false fun e => hw e.symm
      simp [hd]
    rw [e, List.append_nil]
theorem verP_at {l : List Snap} {k : Nat} (hk : k < l.length) (h : ∀ i < k, verB l i = true) (hb : verB l k = false) : verP l = (k : Int) := by
  unfold verP
  have e : (List.range l.length).find? (fun i => !verB l i) = some k := by
    refine find_stop (pre := List.range k) ?_ (fun j hj => by rw [h j (by simpa using hj)]; rfl) (by rw [hb]; rfl)
    rw [← List.range_succ]
    exact ⟨(List.range (l.length - (k + 1))).map (k + 1 + ·), by rw [← List.range_add]; congr 1; omega⟩
  rw [e]
theorem verP_all {l : List Snap} (h : ∀ i < l.length, verB l i = true) : verP l = -1 := by
  unfold verP
  have e : (List.range l.length).find? (fun i => !verB l i) = .none := List.find?_eq_none.2 fun i hi => by rw [h i (by simpa using hi)]; decide
  rw [e]

end Go.Proofs.YtbgfnofjnbpdgaaDoor
