/-
  Logs of snapshots: their memory, and what they hold.
-/
import Derived.Test.YtbgfnofjnbpdgaaDoorSna
import Derived.Test.YtbgfnofjnbpdgaaDoorTab
import Derived.Test.YtbgfnofjnbpdgaaDoorVcl
namespace Go.Proofs.YtbgfnofjnbpdgaaDoor
open Go Go.RowKit
set_option linter.unusedVariables false

/-- A record of a log, with its marks. -/
structure Rec where
  s : Snap
  fo : Bool
  he : Bool
def Rec.cells (r : Rec) : List Value := [.int .i64 r.s.w, .int .i64 r.s.q, .int .i64 r.s.d, .string ⟨⟨r.s.nm⟩⟩, .int .i64 r.s.gn, .int .i64 r.s.sz, .int .i64 r.s.fl, .int .i64 r.s.bt, .string ⟨⟨r.s.pv⟩⟩, .bool r.s.hd, .bool r.fo, .bool r.he]
def Rec.shown (r : Rec) : Snap := { r.s with hd := r.he }
theorem Rec.cells_length (r : Rec) : r.cells.length = 12 := rfl
def recs (l : List Rec) : List Value := l.flatMap Rec.cells
theorem recs_snoc (l : List Rec) (x : Rec) : recs (l ++ [x]) = recs l ++ x.cells := by simp [recs]
theorem recs_length (l : List Rec) : (recs l).length = l.length * 12 := flat_len fun _ _ => rfl

/-- A writer's entry of the map, and its row. -/
structure WR where
  w : Int
  A : Option Addr
  cap : Nat
  born : Nat
  l : List Rec
def WR.entry (x : WR) : MapEntry := ⟨.int .i64 x.w, .slice x.A x.l.length x.cap, x.born⟩
def WR.row (x : WR) : RowD := ⟨x.A, x.l.length, x.cap, 79, 12, recs x.l, (0, 0)⟩
def entsOf (st : List WR) : List MapEntry := st.map WR.entry
def rowsOf (st : List WR) : List RowD := st.map WR.row
def chainOf : List WR → Int → List Rec
  | [], _ => []
  | x :: r, w => if x.w = w then x.l else chainOf r w
def logM (r : Nat) (st : List WR) (c : Nat) : HA := .obj r (.map ⟨entsOf st⟩ c)
def logH (g r : Nat) (st : List WR) (c : Nat) : Hp := [.blk g 77 [.map (some r)], logM r st c, .rows (rowsOf st)]

structure LogOk (st : List WR) (c : Nat) : Prop where
  keys : (st.map WR.w).Nodup
  rng : ∀ x ∈ st, 0 ≤ x.w ∧ x.w ≤ 11
  born : ∀ x ∈ st, x.born < c
  bornN : (st.map WR.born).Nodup
  gr : ∀ x ∈ st, grow x.l.length x.A

theorem chainOf_none {st : List WR} {w : Int} (h : ∀ x ∈ st, x.w ≠ w) : chainOf st w = [] := by
  induction st with
  | nil => rfl
  | cons x r ih =>
    rw [chainOf, if_neg (h x (by simp))]
    exact ih fun y hy => h y (by simp [hy])
theorem chainOf_mid {a b : List WR} {x : WR} {w : Int} (hx : x.w = w) (h : ∀ y ∈ a, y.w ≠ w) : chainOf (a ++ x :: b) w = x.l := by
  induction a with
  | nil => rw [List.nil_append, chainOf, if_pos hx]
  | cons y r ih =>
    rw [List.cons_append, chainOf, if_neg (h y (by simp))]
    exact ih fun z hz => h z (by simp [hz])
theorem chainOf_other {a b : List WR} {x y : WR} {w : Int} (hx : x.w ≠ w) (hy : y.w ≠ w) : chainOf (a ++ x :: b) w = chainOf (a ++ y :: b) w := by
  induction a with
  | nil => rw [List.nil_append, List.nil_append, chainOf, chainOf, if_neg hx, if_neg hy]
  | cons z r ih => rw [List.cons_append, List.cons_append, chainOf, chainOf, ih]
theorem chainOf_new {a : List WR} {y : WR} {w : Int} (hy : y.w ≠ w) : chainOf (a ++ [y]) w = chainOf a w := by
  induction a with
  | nil => exact if_neg hy
  | cons z r ih => rw [List.cons_append, chainOf, chainOf, ih]

/-- The place of a writer's entry. -/
theorem wr_split {st : List WR} {w : Int} (h : ∃ x ∈ st, x.w = w) : ∃ a x b, st = a ++ x :: b ∧ x.w = w ∧ ∀ y ∈ a, y.w ≠ w := by
  induction st with
  | nil => obtain ⟨x, hx, _⟩ := h; simp at hx
  | cons z r ih =>
    by_cases hz : z.w = w
    · exact ⟨[], z, r, rfl, hz, fun y hy => by simp at hy⟩
    · obtain ⟨x, hx, hw⟩ := h
      rcases List.mem_cons.1 hx with rfl | hx
      · exact absurd hw hz
      · obtain ⟨a, x', b, e, h1, h2⟩ := ih ⟨x, hx, hw⟩
        refine ⟨z :: a, x', b, by rw [e]; rfl, h1, fun y hy => ?_⟩
        rcases List.mem_cons.1 hy with rfl | hy
        · exact hz
        · exact h2 y hy

theorem findE_none {st : List WR} {n : Int} (h : ∀ x ∈ st, x.w ≠ n) : ∀ i, findE (.int .i64 n) (entsOf st) i = .none := by
  induction st with
  | nil => intro i; rfl
  | cons x r ih =>
    intro i
    show findE _ (x.entry :: entsOf r) i = _
    unfold findE
    have : sameKey (.int .i64 n) x.entry.key = false := decide_eq_false fun e => h x (by simp) e.symm
    rw [this]
    exact ih (fun y hy => h y (by simp [hy])) (i + 1)
theorem findE_mid {a b : List WR} {x : WR} {n : Int} (hx : x.w = n) (h : ∀ y ∈ a, y.w ≠ n) : ∀ i, findE (.int .i64 n) (entsOf (a ++ x :: b)) i = some (i + a.length, .slice x.A x.l.length x.cap) := by
  induction a with
  | nil =>
    intro i
    show findE _ (x.entry :: entsOf b) i = _
    unfold findE
    have : sameKey (.int .i64 n) x.entry.key = true := decide_eq_true hx.symm
    rw [this]; rfl
  | cons y r ih =>
    intro i
    show findE _ (y.entry :: entsOf (r ++ x :: b)) i = _
    unfold findE
    have : sameKey (.int .i64 n) y.entry.key = false := decide_eq_false fun e => h y (by simp) e.symm
    rw [this]
    show findE _ _ (i + 1) = _
    rw [ih (fun z hz => h z (by simp [hz])) (i + 1), List.length_cons]
    congr 2; omega
theorem like_ents (st : List WR) (n : Int) : ∀ e ∈ entsOf st, likeKey (.int .i64 n) e.key = true := by
  intro e he
  obtain ⟨x, _, rfl⟩ := List.mem_map.1 he
  rfl
theorem setE_mid {a b : List WR} {x : WR} {n : Int} {A : Option Addr} {cap : Nat} {l : List Rec} (hx : x.w = n) : setE (.int .i64 n) (.slice A l.length cap) (entsOf (a ++ x :: b)) a.length = entsOf (a ++ { x with A := A, cap := cap, l := l } :: b) := by
  induction a with
  | nil => subst hx; rfl
  | cons y r ih =>
    show y.entry :: setE _ _ (entsOf (r ++ x :: b)) r.length = _
    rw [ih]; rfl

/-- A log that is read. -/
structure LogR (R : Rd) (g r : Nat) (st : List WR) : Prop where
  m : R ⟨g, 0, .none⟩ (.map (some r))
  rows : ∀ x ∈ st, SlR R 12 (.slice x.A x.l.length x.cap) x.l.length (recs x.l)
theorem LogR.mono {R R' : Rd} {g r : Nat} {st : List WR} (h : LogR R g r st) (hr : ∀ a v, R a v → R' a v) : LogR R' g r st := ⟨hr _ _ h.m, fun x hx => (h.rows x hx).mono hr⟩
theorem LogR.rh {R : Rd} {g r : Nat} {st : List WR} (h : LogR R g r st) (hp : Hp) : LogR (RH R hp) g r st := h.mono fun _ _ => .inl

/-- What a look-up of a writer finds. -/
theorem LogR.found {R : Rd} {g r : Nat} {st : List WR} (h : LogR R g r st) {n : Int} {v : Value} {b : Bool} (hf : foundE (.int .i64 n) (entsOf st) (.slice .none 0 0) v b) :
    ∃ A cap, v = .slice A (chainOf st n).length cap ∧ SlR R 12 v (chainOf st n).length (recs (chainOf st n)) := by
  by_cases hx : ∃ x ∈ st, x.w = n
  · obtain ⟨a, x, c, rfl, hw, ha⟩ := wr_split hx
    have hr := h.rows x (by simp)
    rcases hf with ⟨j, hf, _⟩ | ⟨hf, _⟩
    · rw [findE_mid hw ha] at hf
      simp only [Option.some.injEq, Prod.mk.injEq] at hf
      rw [chainOf_mid hw ha, ← hf.2]
      exact ⟨_, _, rfl, hr⟩
    · rw [findE_mid hw ha] at hf; cases hf
  · have hx' : ∀ x ∈ st, x.w ≠ n := fun x hm e => hx ⟨x, hm, e⟩
    rcases hf with ⟨j, hf, _⟩ | ⟨_, rfl, _⟩
    · rw [findE_none hx'] at hf; cases hf
    · rw [chainOf_none hx']
      exact ⟨_, _, rfl, rfl, .none, 0, rfl, fun j u hu => by simp [recs] at hu⟩

/-- The rows of a log of the call's own can be read. -/
theorem logR_own {R : Rd} {h : Hp} (i j : Nat) {g r : Nat} {t : TypeId} {st : List WR} {c : Nat} (hok : LogOk st c) (hi : h[i]? = some (.blk g t [.map (some r)])) (hj : h[j]? = some (.rows (rowsOf st))) : LogR (RH R h) g r st := by
  refine ⟨ld i hi rfl, fun x hx => ⟨recs_length _, x.A, x.cap, rfl, fun k u hu => ?_⟩⟩
  have hk := (List.getElem?_eq_some_iff.1 hu).1
  have hl := recs_length x.l
  obtain ⟨q, hq⟩ := growA (hok.gr x hx) (by omega)
  refine ⟨⟨q, 0, .none⟩, hq, ?_⟩
  rw [add_zero_addr]
  refine ldrows j hj (List.mem_map.2 ⟨x, hx, rfl⟩) ?_
  show rowCell x.A (recs x.l) _ _
  rw [hq]
  exact ⟨rfl, rfl, hu⟩

/-! ### what a log holds -/
structure GoodC (C : Int → List Rec) : Prop where
  out : ∀ w, ¬ (0 ≤ w ∧ w ≤ 11) → C w = []
  rcd : ∀ (w : Int) (i : Nat) (x : Rec), (C w)[i]? = some x → x.s.w = w ∧ x.s.q = (i : Int) + 1 ∧ x.s.hd = false ∧ Valid x.s
  link : ∀ (w : Int) (i : Nat) (x y : Rec), (C w)[i]? = some x → (C w)[i + 1]? = some y → x.s.d ≤ y.s.d ∧ y.s.pv = sumP x.s
  mark : ∀ (w : Int) (i : Nat) (x : Rec), (C w)[i]? = some x → x.fo = true → x.he = false
def countC (C : Int → List Rec) : Nat := ((List.range 12).map fun w : Nat => (C (w : Int)).length).sum
/-- A log at g that holds C. -/
def LogIs (g : Nat) (C : Int → List Rec) (h : Hp) : Prop := ∃ r st c, LogOk st c ∧ (∀ w, chainOf st w = C w) ∧ h = logH g r st c
def updC (C : Int → List Rec) (w : Int) (l : List Rec) : Int → List Rec := fun v => if v = w then l else C v
def lastC (l : List Rec) : Option Snap := l.getLast?.map Rec.s

/-- The record of the next snapshot, and its error. -/
def nextS (last : Option Snap) (w d : Int) (nm : Str) (gn sz fl bt : Int) : Snap :=
  match last with
  | .none => ⟨w, 1, d, nm, gn, sz, fl, bt, [], false⟩
  | some l => ⟨w, l.q + 1, d, nm, gn, sz, fl, bt, sumP l, false⟩
def nextL (last : Option Snap) (w d : Int) (nm : Str) (gn sz fl bt : Int) : Snap × Int :=
  if validB (nextS last w d nm gn sz fl bt) = true then
    (match last with
    | .none => (nextS last w d nm gn sz fl bt, 0)
    | some l => if d < l.d then (Snap.zero, 13) else (nextS last w d nm gn sz fl bt, 0))
  else (Snap.zero, 1)
def addC (C : Int → List Rec) (s : Snap) : (Int → List Rec) × Int :=
  if validB s = true then
    (if s.q ≤ (C s.w).length then
      (match (C s.w)[(s.q - 1).toNat]? with
      | some x => if x.s = s.bare then (C, 5) else (C, 13)
      | .none => (C, 13))
    else if (C s.w).length + 1 < s.q then (C, 6)
    else if contB s (lastC (C s.w)) = true then
      (if 4096 ≤ countC C then (C, 7) else (updC C s.w (C s.w ++ [⟨s.bare, false, s.hd⟩]), 0))
    else (C, 13))
  else (C, 1)
def findC (C : Int → List Rec) (w q : Int) : Option Rec := if q < 1 then .none else (C w)[(q - 1).toNat]?
def forgetC (C : Int → List Rec) (w q : Int) : (Int → List Rec) × Int :=
  match findC C w q with
  | .none => (C, 4)
  | some x => if x.fo = true then (C, 6) else if x.he = true then (C, 14) else (updC C w ((C w).set (q - 1).toNat { x with fo := true }), 0)
def holdC (C : Int → List Rec) (w q : Int) (b : Bool) : (Int → List Rec) × Int :=
  match findC C w q with
  | .none => (C, 4)
  | some x => if x.fo = true then (C, 6) else (updC C w ((C w).set (q - 1).toNat { x with he := b }), 0)
def latestC (C : Int → List Rec) (w d : Int) : Snap × Int :=
  match (C w).reverse.find? fun x => !x.fo && decide (x.s.d ≤ d) with
  | some x => (x.shown, 0)
  | .none => (Snap.zero, 4)

end Go.Proofs.YtbgfnofjnbpdgaaDoor
