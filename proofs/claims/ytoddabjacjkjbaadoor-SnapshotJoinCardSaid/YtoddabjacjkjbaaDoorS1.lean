/-
  Records of snapshots as plain data: when they are valid, their encoding, their sum.
-/
import Derived.Test.YtoddabjacjkjbaaDoorSha
import Derived.Test.YtoddabjacjkjbaaDoorW1
import Derived.Test.YtoddabjacjkjbaaDoorTab
import Derived.Test.YtoddabjacjkjbaaDoorV2
namespace Go.Proofs.YtoddabjacjkjbaaDoor
open Go Go.RowKit
set_option linter.unusedVariables false

abbrev Str := List UInt8

structure Snap where
  w : Int
  q : Int
  d : Int
  nm : Str
  gn : Int
  sz : Int
  fl : Int
  bt : Int
  pv : Str
  hd : Bool

theorem Snap.ext' {a b : Snap} (h1 : a.w = b.w) (h2 : a.q = b.q) (h3 : a.d = b.d) (h4 : a.nm = b.nm) (h5 : a.gn = b.gn) (h6 : a.sz = b.sz) (h7 : a.fl = b.fl) (h8 : a.bt = b.bt) (h9 : a.pv = b.pv) (h10 : a.hd = b.hd) : a = b := by
  cases a; cases b; simp only at *; subst h1 h2 h3 h4 h5 h6 h7 h8 h9 h10; rfl
instance instDecSnap : DecidableEq Snap := fun a b =>
  decidable_of_iff (a.w = b.w ∧ a.q = b.q ∧ a.d = b.d ∧ a.nm = b.nm ∧ a.gn = b.gn ∧ a.sz = b.sz ∧ a.fl = b.fl ∧ a.bt = b.bt ∧ a.pv = b.pv ∧ a.hd = b.hd)
    ⟨fun ⟨h1, h2, h3, h4, h5, h6, h7, h8, h9, h10⟩ => Snap.ext' h1 h2 h3 h4 h5 h6 h7 h8 h9 h10, fun h => by subst h; exact ⟨rfl, rfl, rfl, rfl, rfl, rfl, rfl, rfl, rfl, rfl⟩⟩

def Snap.cells (s : Snap) : List Value := [.int .i64 s.w, .int .i64 s.q, .int .i64 s.d, .string ⟨⟨s.nm⟩⟩, .int .i64 s.gn, .int .i64 s.sz, .int .i64 s.fl, .int .i64 s.bt, .string ⟨⟨s.pv⟩⟩, .bool s.hd]
theorem Snap.cells_inj {a b : Snap} (h : a.cells = b.cells) : a = b := by
  simp only [Snap.cells, List.cons.injEq, Value.int.injEq, Value.string.injEq, Value.bool.injEq, ByteArray.mk.injEq, Array.mk.injEq, true_and, and_true] at h
  obtain ⟨h1, h2, h3, h4, h5, h6, h7, h8, h9, h10⟩ := h
  exact Snap.ext' h1 h2 h3 h4 h5 h6 h7 h8 h9 h10
theorem Snap.cells_iff {a b : Snap} : a.cells = b.cells ↔ a = b := ⟨Snap.cells_inj, fun h => by rw [h]⟩
def Snap.zero : Snap := ⟨0, 0, 0, [], 0, 0, 0, 0, [], false⟩
def Snap.bare (s : Snap) : Snap := { s with hd := false }
theorem Snap.bare_bare (s : Snap) : s.bare.bare = s.bare := rfl

/-- What every value of the type is. -/
structure Snap.Ok (s : Snap) : Prop where
  w1 : -9223372036854775808 ≤ s.w
  w2 : s.w ≤ 9223372036854775807
  q1 : -9223372036854775808 ≤ s.q
  q2 : s.q ≤ 9223372036854775807
  d1 : -9223372036854775808 ≤ s.d
  d2 : s.d ≤ 9223372036854775807
  nm : s.nm.length ≤ 9223372036854775807
  gn1 : -9223372036854775808 ≤ s.gn
  gn2 : s.gn ≤ 9223372036854775807
  sz1 : -9223372036854775808 ≤ s.sz
  sz2 : s.sz ≤ 9223372036854775807
  fl1 : -9223372036854775808 ≤ s.fl
  fl2 : s.fl ≤ 9223372036854775807
  bt1 : -9223372036854775808 ≤ s.bt
  bt2 : s.bt ≤ 9223372036854775807
  pv : s.pv.length ≤ 9223372036854775807

def inB (n lo hi : Int) : Bool := decide (lo ≤ n) && decide (n ≤ hi)
theorem inB_iff {n lo hi : Int} : inB n lo hi = true ↔ lo ≤ n ∧ n ≤ hi := by simp [inB]
def validB (s : Snap) : Bool :=
  inB s.w 0 11 && (inB s.q 1 1099511627776 && (inB s.d 0 999999 && (decide (s.nm.length = 32) && (inB s.gn 0 1099511627776 && (inB s.sz 0 65536 && (inB s.fl 0 4096 && (inB s.bt 0 1099511627776 &&
    (if s.q = 1 then decide (s.pv = []) else decide (s.pv.length = 32)))))))))

structure Valid (s : Snap) : Prop where
  w : 0 ≤ s.w ∧ s.w ≤ 11
  q : 1 ≤ s.q ∧ s.q ≤ 1099511627776
  d : 0 ≤ s.d ∧ s.d ≤ 999999
  nm : s.nm.length = 32
  gn : 0 ≤ s.gn ∧ s.gn ≤ 1099511627776
  sz : 0 ≤ s.sz ∧ s.sz ≤ 65536
  fl : 0 ≤ s.fl ∧ s.fl ≤ 4096
  bt : 0 ≤ s.bt ∧ s.bt ≤ 1099511627776
  p1 : s.q = 1 → s.pv = []
  p2 : s.q ≠ 1 → s.pv.length = 32

theorem validB_iff {s : Snap} : validB s = true ↔ Valid s := by
  simp only [validB, Bool.and_eq_true, inB_iff, decide_eq_true_eq]
  constructor
  · rintro ⟨h1, h2, h3, h4, h5, h6, h7, h8, h9⟩
    refine ⟨h1, h2, h3, h4, h5, h6, h7, h8, fun h => ?_, fun h => ?_⟩
    · rw [if_pos h] at h9; exact of_decide_eq_true h9
    · rw [if_neg h] at h9; exact of_decide_eq_true h9
  · rintro ⟨h1, h2, h3, h4, h5, h6, h7, h8, h9, h10⟩
    refine ⟨h1, h2, h3, h4, h5, h6, h7, h8, ?_⟩
    by_cases h : s.q = 1
    · rw [if_pos h]; exact decide_eq_true (h9 h)
    · rw [if_neg h]; exact decide_eq_true (h10 h)
theorem Valid.bare {s : Snap} (h : Valid s) : Valid s.bare := ⟨h.w, h.q, h.d, h.nm, h.gn, h.sz, h.fl, h.bt, h.p1, h.p2⟩
theorem Valid.of_bare {s : Snap} (h : Valid s.bare) : Valid s := ⟨h.w, h.q, h.d, h.nm, h.gn, h.sz, h.fl, h.bt, h.p1, h.p2⟩
theorem Valid.hold {s : Snap} (h : Valid s) (b : Bool) : Valid { s with hd := b } := ⟨h.w, h.q, h.d, h.nm, h.gn, h.sz, h.fl, h.bt, h.p1, h.p2⟩
theorem validB_hold (s : Snap) (b : Bool) : validB { s with hd := b } = validB s := rfl
theorem validB_bare (s : Snap) : validB s.bare = validB s := rfl
theorem Valid.ok {s : Snap} (h : Valid s) : s.Ok := by
  obtain ⟨h1, h2, h3, h4, h5, h6, h7, h8, h9, h10⟩ := h
  refine ⟨by omega, by omega, by omega, by omega, by omega, by omega, by omega, by omega, by omega, by omega, by omega, by omega, by omega, by omega, by omega, ?_⟩
  by_cases h : s.q = 1
  · rw [h9 h]; simp
  · have := h10 h; omega
theorem Valid.pv_le {s : Snap} (h : Valid s) : s.pv.length ≤ 32 := by
  by_cases h1 : s.q = 1
  · rw [h.p1 h1]; simp
  · have := h.p2 h1; omega

/-- The encoding of a record, without its hold. -/
def encP (s : Snap) : Str := num s.w.toNat ++ (num s.q.toNat ++ (num s.d.toNat ++ (s.nm ++ (num s.gn.toNat ++ (num s.sz.toNat ++ (num s.fl.toNat ++ (num s.bt.toNat ++ (num s.pv.length ++ s.pv))))))))
def sumP (s : Snap) : Str := sha (encP s)
theorem encP_bare (s : Snap) : encP s.bare = encP s := rfl
theorem sumP_bare (s : Snap) : sumP s.bare = sumP s := rfl
theorem encP_hold (s : Snap) (b : Bool) : encP { s with hd := b } = encP s := rfl
theorem sumP_hold (s : Snap) (b : Bool) : sumP { s with hd := b } = sumP s := rfl
theorem sumP_length (s : Snap) : (sumP s).length = 32 := sha_length _
theorem encP_le {s : Snap} (h : Valid s) : (encP s).length ≤ 200 := by
  have hu : ∀ {n : Nat}, n ≤ 18446744073709551615 → (num n).length ≤ 10 := fun h => by rw [length_num]; exact usize_le10 h
  have hp := Valid.pv_le h
  obtain ⟨h1, h2, h3, h4, h5, h6, h7, h8, _, _⟩ := h
  have a1 := hu (n := s.w.toNat) (by omega)
  have a2 := hu (n := s.q.toNat) (by omega)
  have a3 := hu (n := s.d.toNat) (by omega)
  have a4 := hu (n := s.gn.toNat) (by omega)
  have a5 := hu (n := s.sz.toNat) (by omega)
  have a6 := hu (n := s.fl.toNat) (by omega)
  have a7 := hu (n := s.bt.toNat) (by omega)
  have a8 := hu (n := s.pv.length) (by omega)
  simp only [encP, List.length_append]
  omega

theorem encP_inj {a b : Snap} (ha : Valid a) (hb : Valid b) {r t : Str} (h : encP a ++ r = encP b ++ t) : a.bare = b.bare ∧ r = t := by
  have hpa := ha.pv_le
  have hpb := hb.pv_le
  obtain ⟨a1, a2, a3, a4, a5, a6, a7, a8, a9, a10⟩ := ha
  obtain ⟨b1, b2, b3, b4, b5, b6, b7, b8, b9, b10⟩ := hb
  simp only [encP, List.append_assoc] at h
  obtain ⟨e1, h⟩ := num_prefix (by omega) (by omega) h
  obtain ⟨e2, h⟩ := num_prefix (by omega) (by omega) h
  obtain ⟨e3, h⟩ := num_prefix (by omega) (by omega) h
  obtain ⟨e4, h⟩ := List.append_inj h (by omega)
  obtain ⟨e5, h⟩ := num_prefix (by omega) (by omega) h
  obtain ⟨e6, h⟩ := num_prefix (by omega) (by omega) h
  obtain ⟨e7, h⟩ := num_prefix (by omega) (by omega) h
  obtain ⟨e8, h⟩ := num_prefix (by omega) (by omega) h
  obtain ⟨e9, h⟩ := num_prefix (by omega) (by omega) h
  obtain ⟨e10, h⟩ := List.append_inj h e9
  exact ⟨Snap.ext' (by show a.w = b.w; omega) (by show a.q = b.q; omega) (by show a.d = b.d; omega) e4 (by show a.gn = b.gn; omega) (by show a.sz = b.sz; omega) (by show a.fl = b.fl; omega) (by show a.bt = b.bt; omega) e10 rfl, h⟩

/-- A record follows the last one of its writer, if there is one. -/
def contB (s : Snap) (last : Option Snap) : Bool :=
  match last with
  | .none => decide (s.q = 1)
  | some l => decide (s.q = l.q + 1) && (decide (l.d ≤ s.d) && decide (s.pv = sumP l))

end Go.Proofs.YtoddabjacjkjbaaDoor

namespace Go.Proofs.YtoddabjacjkjbaaDoor
open Go Go.RowKit
set_option linter.unusedVariables false

/-- A record of a log, with its marks. -/
structure Rec where
  s : Snap
  fo : Bool
  he : Bool
def Rec.cells (r : Rec) : List Value := [.int .i64 r.s.w, .int .i64 r.s.q, .int .i64 r.s.d, .string ⟨⟨r.s.nm⟩⟩, .int .i64 r.s.gn, .int .i64 r.s.sz, .int .i64 r.s.fl, .int .i64 r.s.bt, .string ⟨⟨r.s.pv⟩⟩, .bool r.s.hd, .bool r.fo, .bool r.he]
def Rec.shown (r : Rec) : Snap := { r.s with hd := r.he }
theorem Rec.cells_length (r : Rec) : r.cells.length = 12 := rfl
def recs (l : List Rec) : List Value := l.flatMap Rec.cells
theorem recs_snoc (l : List Rec) (x : Rec) : recs (l ++ [x]) = recs l ++ x.cells := by simp [recs]
theorem recs_length (l : List Rec) : (recs l).length = l.length * 12 := flat_len fun _ _ => rfl

/-- A writer's entry of the map, and its row. -/
structure WR where
  w : Int
  A : Option Addr
  cap : Nat
  born : Nat
  l : List Rec
def WR.entry (x : WR) : MapEntry := ⟨.int .i64 x.w, .slice x.A x.l.length x.cap, x.born⟩
def WR.row (x : WR) : RowD := ⟨x.A, x.l.length, x.cap, 164, 12, recs x.l, (0, 0)⟩
def entsOf (st : List WR) : List MapEntry := st.map WR.entry
def rowsOf (st : List WR) : List RowD := st.map WR.row
def chainOf : List WR → Int → List Rec
  | [], _ => []
  | x :: r, w => if x.w = w then x.l else chainOf r w
def logM (r : Nat) (st : List WR) (c : Nat) : HA := .obj r (.map ⟨entsOf st⟩ c)
def logH (g r : Nat) (st : List WR) (c : Nat) : Hp := [.blk g 161 [.map (some r)], logM r st c, .rows (rowsOf st)]

structure LogOk (st : List WR) (c : Nat) : Prop where
  keys : (st.map WR.w).Nodup
  rng : ∀ x ∈ st, 0 ≤ x.w ∧ x.w ≤ 11
  born : ∀ x ∈ st, x.born < c
  bornN : (st.map WR.born).Nodup
  gr : ∀ x ∈ st, grow x.l.length x.A

theorem chainOf_none {st : List WR} {w : Int} (h : ∀ x ∈ st, x.w ≠ w) : chainOf st w = [] := by
  induction st with
  | nil => rfl
  | cons x r ih =>
    rw [chainOf, if_neg (h x (by simp))]
    exact ih fun y hy => h y (by simp [hy])
theorem chainOf_mid {a b : List WR} {x : WR} {w : Int} (hx : x.w = w) (h : ∀ y ∈ a, y.w ≠ w) : chainOf (a ++ x :: b) w = x.l := by
  induction a with
  | nil => rw [List.nil_append, chainOf, if_pos hx]
  | cons y r ih =>
    rw [List.cons_append, chainOf, if_neg (h y (by simp))]
    exact ih fun z hz => h z (by simp [hz])
theorem chainOf_other {a b : List WR} {x y : WR} {w : Int} (hx : x.w ≠ w) (hy : y.w ≠ w) : chainOf (a ++ x :: b) w = chainOf (a ++ y :: b) w := by
  induction a with
  | nil => rw [List.nil_append, List.nil_append, chainOf, chainOf, if_neg hx, if_neg hy]
  | cons z r ih => rw [List.cons_append, List.cons_append, chainOf, chainOf, ih]
theorem chainOf_new {a : List WR} {y : WR} {w : Int} (hy : y.w ≠ w) : chainOf (a ++ [y]) w = chainOf a w := by
  induction a with
  | nil => exact if_neg hy
  | cons z r ih => rw [List.cons_append, chainOf, chainOf, ih]

/-- The place of a writer's entry. -/
theorem wr_split {st : List WR} {w : Int} (h : ∃ x ∈ st, x.w = w) : ∃ a x b, st = a ++ x :: b ∧ x.w = w ∧ ∀ y ∈ a, y.w ≠ w := by
  induction st with
  | nil => obtain ⟨x, hx, _⟩ := h; simp at hx
  | cons z r ih =>
    by_cases hz : z.w = w
    · exact ⟨[], z, r, rfl, hz, fun y hy => by simp at hy⟩
    · obtain ⟨x, hx, hw⟩ := h
      rcases List.mem_cons.1 hx with rfl | hx
      · exact absurd hw hz
      · obtain ⟨a, x', b, e, h1, h2⟩ := ih ⟨x, hx, hw⟩
        refine ⟨z :: a, x', b, by rw [e]; rfl, h1, fun y hy => ?_⟩
        rcases List.mem_cons.1 hy with rfl | hy
        · exact hz
        · exact h2 y hy

theorem findE_none {st : List WR} {n : Int} (h : ∀ x ∈ st, x.w ≠ n) : ∀ i, findE (.int .i64 n) (entsOf st) i = .none := by
  induction st with
  | nil => intro i; rfl
  | cons x r ih =>
    intro i
    show findE _ (x.entry :: entsOf r) i = _
    unfold findE
    have : sameKey (.int .i64 n) x.entry.key = false := decide_eq_false fun e => h x (by simp) e.symm
    rw [this]
    exact ih (fun y hy => h y (by simp [hy])) (i + 1)
theorem findE_mid {a b : List WR} {x : WR} {n : Int} (hx : x.w = n) (h : ∀ y ∈ a, y.w ≠ n) : ∀ i, findE (.int .i64 n) (entsOf (a ++ x :: b)) i = some (i + a.length, .slice x.A x.l.length x.cap) := by
  induction a with
  | nil =>
    intro i
    show findE _ (x.entry :: entsOf b) i = _
    unfold findE
    have : sameKey (.int .i64 n) x.entry.key = true := decide_eq_true hx.symm
    rw [this]; rfl
  | cons y r ih =>
    intro i
    show findE _ (y.entry :: entsOf (r ++ x :: b)) i = _
    unfold findE
    have : sameKey (.int .i64 n) y.entry.key = false := decide_eq_false fun e => h y (by simp) e.symm
    rw [this]
    show findE _ _ (i + 1) = _
    rw [ih (fun z hz => h z (by simp [hz])) (i + 1), List.length_cons]
    congr 2; omega
theorem like_ents (st : List WR) (n : Int) : ∀ e ∈ entsOf st, likeKey (.int .i64 n) e.key = true := by
  intro e he
  obtain ⟨x, _, rfl⟩ := List.mem_map.1 he
  rfl
theorem setE_mid {a b : List WR} {x : WR} {n : Int} {A : Option Addr} {cap : Nat} {l : List Rec} (hx : x.w = n) : setE (.int .i64 n) (.slice A l.length cap) (entsOf (a ++ x :: b)) a.length = entsOf (a ++ { x with A := A, cap := cap, l := l } :: b) := by
  induction a with
  | nil => subst hx; rfl
  | cons y r ih =>
    show y.entry :: setE _ _ (entsOf (r ++ x :: b)) r.length = _
    rw [ih]; rfl

/-- A log that is read. -/
structure LogR (R : Rd) (g r : Nat) (st : List WR) : Prop where
  m : R ⟨g, 0, .none⟩ (.map (some r))
  rows : ∀ x ∈ st, SlR R 12 (.slice x.A x.l.length x.cap) x.l.length (recs x.l)
theorem LogR.mono {R R' : Rd} {g r : Nat} {st : List WR} (h : LogR R g r st) (hr : ∀ a v, R a v → R' a v) : LogR R' g r st := ⟨hr _ _ h.m, fun x hx => (h.rows x hx).mono hr⟩
theorem LogR.rh {R : Rd} {g r : Nat} {st : List WR} (h : LogR R g r st) (hp : Hp) : LogR (RH R hp) g r st := h.mono fun _ _ => .inl

/-- What a look-up of a writer finds. -/
theorem LogR.found {R : Rd} {g r : Nat} {st : List WR} (h : LogR R g r st) {n : Int} {v : Value} {b : Bool} (hf : foundE (.int .i64 n) (entsOf st) (.slice .none 0 0) v b) :
    ∃ A cap, v = .slice A (chainOf st n).length cap ∧ SlR R 12 v (chainOf st n).length (recs (chainOf st n)) := by
  by_cases hx : ∃ x ∈ st, x.w = n
  · obtain ⟨a, x, c, rfl, hw, ha⟩ := wr_split hx
    have hr := h.rows x (by simp)
    rcases hf with ⟨j, hf, _⟩ | ⟨hf, _⟩
    · rw [findE_mid hw ha] at hf
      simp only [Option.some.injEq, Prod.mk.injEq] at hf
      rw [chainOf_mid hw ha, ← hf.2]
      exact ⟨_, _, rfl, hr⟩
    · rw [findE_mid hw ha] at hf; cases hf
  · have hx' : ∀ x ∈ st, x.w ≠ n := fun x hm e => hx ⟨x, hm, e⟩
    rcases hf with ⟨j, hf, _⟩ | ⟨_, rfl, _⟩
    · rw [findE_none hx'] at hf; cases hf
    · rw [chainOf_none hx']
      exact ⟨_, _, rfl, rfl, .none, 0, rfl, fun j u hu => by simp [recs] at hu⟩

/-- The rows of a log of the call's own can be read. -/
theorem logR_own {R : Rd} {h : Hp} (i j : Nat) {g r : Nat} {t : TypeId} {st : List WR} {c : Nat} (hok : LogOk st c) (hi : h[i]? = some (.blk g t [.map (some r)])) (hj : h[j]? = some (.rows (rowsOf st))) : LogR (RH R h) g r st := by
  refine ⟨ld i hi rfl, fun x hx => ⟨recs_length _, x.A, x.cap, rfl, fun k u hu => ?_⟩⟩
  have hk := (List.getElem?_eq_some_iff.1 hu).1
  have hl := recs_length x.l
  obtain ⟨q, hq⟩ := growA (hok.gr x hx) (by omega)
  refine ⟨⟨q, 0, .none⟩, hq, ?_⟩
  rw [add_zero_addr]
  refine ldrows j hj (List.mem_map.2 ⟨x, hx, rfl⟩) ?_
  show rowCell x.A (recs x.l) _ _
  rw [hq]
  exact ⟨rfl, rfl, hu⟩

/-! ### what a log holds -/
structure GoodC (C : Int → List Rec) : Prop where
  out : ∀ w, ¬ (0 ≤ w ∧ w ≤ 11) → C w = []
  rcd : ∀ (w : Int) (i : Nat) (x : Rec), (C w)[i]? = some x → x.s.w = w ∧ x.s.q = (i : Int) + 1 ∧ x.s.hd = false ∧ Valid x.s
  link : ∀ (w : Int) (i : Nat) (x y : Rec), (C w)[i]? = some x → (C w)[i + 1]? = some y → x.s.d ≤ y.s.d ∧ y.s.pv = sumP x.s
  mark : ∀ (w : Int) (i : Nat) (x : Rec), (C w)[i]? = some x → x.fo = true → x.he = false
def countC (C : Int → List Rec) : Nat := ((List.range 12).map fun w : Nat => (C (w : Int)).length).sum
/-- A log at g that holds C. -/
def LogIs (g : Nat) (C : Int → List Rec) (h : Hp) : Prop := ∃ r st c, LogOk st c ∧ (∀ w, chainOf st w = C w) ∧ h = logH g r st c
def updC (C : Int → List Rec) (w : Int) (l : List Rec) : Int → List Rec := fun v => if v = w then l else C v
def lastC (l : List Rec) : Option Snap := l.getLast?.map Rec.s

/-- The record of the next snapshot, and its error. -/
def nextS (last : Option Snap) (w d : Int) (nm : Str) (gn sz fl bt : Int) : Snap :=
  match last with
  | .none => ⟨w, 1, d, nm, gn, sz, fl, bt, [], false⟩
  | some l => ⟨w, l.q + 1, d, nm, gn, sz, fl, bt, sumP l, false⟩
def nextL (last : Option Snap) (w d : Int) (nm : Str) (gn sz fl bt : Int) : Snap × Int :=
  if validB (nextS last w d nm gn sz fl bt) = true then
    (match last with
    | .none => (nextS last w d nm gn sz fl bt, 0)
    | some l => if d < l.d then (Snap.zero, 13) else (nextS last w d nm gn sz fl bt, 0))
  else (Snap.zero, 1)
def addC (C : Int → List Rec) (s : Snap) : (Int → List Rec) × Int :=
  if validB s = true then
    (if s.q ≤ (C s.w).length then
      (match (C s.w)[(s.q - 1).toNat]? with
      | some x => if x.s = s.bare then (C, 5) else (C, 13)
      | .none => (C, 13))
    else if (C s.w).length + 1 < s.q then (C, 6)
    else if contB s (lastC (C s.w)) = true then
      (if 4096 ≤ countC C then (C, 7) else (updC C s.w (C s.w ++ [⟨s.bare, false, s.hd⟩]), 0))
    else (C, 13))
  else (C, 1)
def findC (C : Int → List Rec) (w q : Int) : Option Rec := if q < 1 then .none else (C w)[(q - 1).toNat]?
def forgetC (C : Int → List Rec) (w q : Int) : (Int → List Rec) × Int :=
  match findC C w q with
  | .none => (C, 4)
  | some x => if x.fo = true then (C, 6) else if x.he = true then (C, 14) else (updC C w ((C w).set (q - 1).toNat { x with fo := true }), 0)
def holdC (C : Int → List Rec) (w q : Int) (b : Bool) : (Int → List Rec) × Int :=
  match findC C w q with
  | .none => (C, 4)
  | some x => if x.fo = true then (C, 6) else (updC C w ((C w).set (q - 1).toNat { x with he := b }), 0)
def latestC (C : Int → List Rec) (w d : Int) : Snap × Int :=
  match (C w).reverse.find? fun x => !x.fo && decide (x.s.d ≤ d) with
  | some x => (x.shown, 0)
  | .none => (Snap.zero, 4)

end Go.Proofs.YtoddabjacjkjbaaDoor

namespace Go.Proofs.YtoddabjacjkjbaaDoor
open Go Go.RowKit
set_option linter.unusedVariables false
set_option linter.unusedSimpArgs false

/-- A record with its mark. -/
structure Mk where
  s : Snap
  fo : Bool
theorem Mk.ext' {a b : Mk} (h1 : a.s = b.s) (h2 : a.fo = b.fo) : a = b := by cases a; cases b; simp only at *; subst h1 h2; rfl
def Mk.cells (m : Mk) : List Value := [.int .i64 m.s.w, .int .i64 m.s.q, .int .i64 m.s.d, .string ⟨⟨m.s.nm⟩⟩, .int .i64 m.s.gn, .int .i64 m.s.sz, .int .i64 m.s.fl, .int .i64 m.s.bt, .string ⟨⟨m.s.pv⟩⟩, .bool m.s.hd, .bool m.fo]
def Rec.mk' (r : Rec) : Mk := ⟨r.shown, r.fo⟩
def flatN (C : Int → List Rec) (a n : Nat) : List Mk := (List.range' a n).flatMap fun w : Nat => (C (w : Int)).map Rec.mk'
def flatC (C : Int → List Rec) : List Mk := flatN C 0 12

theorem flatN_add (C : Int → List Rec) (a m n : Nat) : flatN C a (m + n) = flatN C a m ++ flatN C (a + m) n := by
  unfold flatN
  rw [← List.range'_append_1, List.flatMap_append]
theorem flatN_one (C : Int → List Rec) (a : Nat) : flatN C a 1 = (C (a : Int)).map Rec.mk' := by simp [flatN]
theorem flatN_congr {C D : Int → List Rec} {a n : Nat} (h : ∀ w : Nat, a ≤ w → w < a + n → C w = D w) : flatN C a n = flatN D a n := by
  unfold flatN
  rw [List.flatMap_def, List.flatMap_def]
  congr 1
  apply List.map_congr_left
  intro w hw
  rw [List.mem_range'_1] at hw
  rw [h w hw.1 hw.2]
/-- The list around a writer's records. -/
theorem flatC_split (C : Int → List Rec) {w : Nat} (hw : w < 12) : flatC C = flatN C 0 w ++ ((C w).map Rec.mk' ++ flatN C (w + 1) (11 - w)) := by
  have e : 12 = w + (1 + (11 - w)) := by omega
  rw [flatC, e, flatN_add, flatN_add, flatN_one, Nat.zero_add]
theorem mem_flatN {C : Int → List Rec} (hC : GoodC C) {a n : Nat} {m : Mk} (h : m ∈ flatN C a n) : ∃ w : Nat, a ≤ w ∧ w < a + n ∧ ∃ (i : Nat) (x : Rec), (C w)[i]? = some x ∧ m = x.mk' ∧ m.s.w = w ∧ m.s.q = (i : Int) + 1 := by
  obtain ⟨w, hw, hm⟩ := List.mem_flatMap.1 h
  rw [List.mem_range'_1] at hw
  obtain ⟨x, hx, rfl⟩ := List.mem_map.1 hm
  obtain ⟨i, hi⟩ := List.getElem?_of_mem hx
  obtain ⟨h1, h2, _⟩ := hC.rcd _ _ _ hi
  exact ⟨w, hw.1, hw.2, i, x, hi, rfl, h1, h2⟩
theorem flatN_lo {C : Int → List Rec} (hC : GoodC C) {w : Nat} : ∀ m ∈ flatN C 0 w, m.s.w < w := fun m hm => by
  obtain ⟨v, _, h2, _, _, _, _, h3, _⟩ := mem_flatN hC hm
  omega
theorem flatN_hi {C : Int → List Rec} (hC : GoodC C) {w n : Nat} : ∀ m ∈ flatN C (w + 1) n, (w : Int) < m.s.w := fun m hm => by
  obtain ⟨v, h1, _, _, _, _, _, h3, _⟩ := mem_flatN hC hm
  omega
theorem chain_mk {C : Int → List Rec} (hC : GoodC C) {w : Nat} : ∀ m ∈ (C w).map Rec.mk', m.s.w = w := fun m hm => by
  obtain ⟨x, hx, rfl⟩ := List.mem_map.1 hm
  obtain ⟨i, hi⟩ := List.getElem?_of_mem hx
  exact (hC.rcd _ _ _ hi).1
theorem mem_flatC {C : Int → List Rec} (hC : GoodC C) {m : Mk} (h : m ∈ flatC C) : 0 ≤ m.s.w ∧ m.s.w ≤ 11 ∧ ∃ (i : Nat) (x : Rec), (C m.s.w)[i]? = some x ∧ m = x.mk' ∧ m.s.q = (i : Int) + 1 := by
  obtain ⟨w, h1, h2, i, x, hi, hm, hw, hq⟩ := mem_flatN hC h
  refine ⟨by omega, by omega, i, x, ?_, hm, hq⟩
  rw [hw]; exact hi

/-! ### changes -/
theorem flatC_upd (C : Int → List Rec) {w : Nat} (hw : w < 12) (l : List Rec) : flatC (updC C w l) = flatN C 0 w ++ (l.map Rec.mk' ++ flatN C (w + 1) (11 - w)) := by
  rw [flatC_split (updC C w l) hw]
  have e1 : flatN (updC C w l) 0 w = flatN C 0 w := flatN_congr fun v _ hv => if_neg (by omega)
  have e2 : flatN (updC C w l) (w + 1) (11 - w) = flatN C (w + 1) (11 - w) := flatN_congr fun v hv _ => if_neg (by omega)
  have e3 : updC C w l w = l := if_pos rfl
  rw [e1, e2, e3]
theorem flatC_length (C : Int → List Rec) : (flatC C).length = countC C := by
  unfold flatC flatN countC
  rw [List.length_flatMap]
  congr 1
  rw [List.range_eq_range']
  apply List.map_congr_left
  intro w _
  rw [List.length_map]

/-! ### the reference's words, plain -/
def rLast (l : List Snap) (w : Int) : Option Snap := l.reverse.find? fun s => decide (s.w = w)
def rFind (l : List Mk) (w q : Int) : Option Nat := l.findIdx? fun m => decide (m.s.w = w) && decide (m.s.q = q)
def rLess (a b : Snap) : Bool := decide (a.w < b.w) || (decide (a.w = b.w) && decide (a.q < b.q))
def rPut (l : List Mk) (m : Mk) : List Mk := l.takeWhile (fun x => rLess x.s m.s) ++ m :: l.dropWhile fun x => rLess x.s m.s

theorem find_rev_mid {α : Type} {p : α → Bool} {a b c : List α} (ha : ∀ x ∈ a, p x = false) (hc : ∀ x ∈ c, p x = false) : (a ++ (b ++ c)).reverse.find? p = b.reverse.find? p := by
  rw [List.reverse_append, List.reverse_append, List.append_assoc, List.find?_append, List.find?_append]
  have h1 : c.reverse.find? p = .none := List.find?_eq_none.2 fun x hx => by rw [hc x (List.mem_reverse.1 hx)]; simp
  have h2 : a.reverse.find? p = .none := List.find?_eq_none.2 fun x hx => by rw [ha x (List.mem_reverse.1 hx)]; simp
  rw [h1, h2]
  cases b.reverse.find? p <;> rfl

theorem find_rev_all {α : Type} {p : α → Bool} {b : List α} (h : ∀ x ∈ b, p x = true) : b.reverse.find? p = b.getLast? := by
  rw [List.getLast?_eq_head?_reverse]
  cases hb : b.reverse with
  | nil => rfl
  | cons x r =>
    have : x ∈ b := List.mem_reverse.1 (by rw [hb]; simp)
    rw [List.find?_cons, h x this]; rfl

/-- The last record of a writer. -/
theorem rLast_flat {C : Int → List Rec} (hC : GoodC C) (w : Int) : rLast ((flatC C).map Mk.s) w = ((C w).getLast?).map Rec.shown := by
  by_cases hw : 0 ≤ w ∧ w ≤ 11
  · obtain ⟨n, rfl⟩ := Int.eq_ofNat_of_zero_le hw.1
    have hn : n < 12 := by omega
    rw [rLast, flatC_split C hn, List.map_append, List.map_append, find_rev_mid]
    · rw [find_rev_all]
      · rw [List.map_map, List.getLast?_map]; rfl
      · intro s hs
        obtain ⟨m, hm, rfl⟩ := List.mem_map.1 hs
        exact decide_eq_true (chain_mk hC m hm)
    · intro s hs
      obtain ⟨m, hm, rfl⟩ := List.mem_map.1 hs
      exact decide_eq_false (by have := flatN_lo hC m hm; omega)
    · intro s hs
      obtain ⟨m, hm, rfl⟩ := List.mem_map.1 hs
      exact decide_eq_false (by have := flatN_hi hC m hm; omega)
  · rw [hC.out w hw, rLast]
    rw [List.find?_eq_none.2]
    · rfl
    · intro s hs
      obtain ⟨m, hm, rfl⟩ := List.mem_map.1 (List.mem_reverse.1 hs)
      obtain ⟨h1, h2, _⟩ := mem_flatC hC hm
      rw [decide_eq_true_eq]
      intro e; exact hw (by omega)

theorem takeWhile_mid {α : Type} {p : α → Bool} {a b : List α} (ha : ∀ x ∈ a, p x = true) (hb : ∀ x ∈ b, p x = false) : (a ++ b).takeWhile p = a ∧ (a ++ b).dropWhile p = b := by
  induction a with
  | nil =>
    cases b with
    | nil => exact ⟨rfl, rfl⟩
    | cons x r => simp [List.takeWhile_cons, List.dropWhile_cons, hb x (by simp)]
  | cons x r ih =>
    obtain ⟨h1, h2⟩ := ih fun y hy => ha y (by simp [hy])
    simp [List.takeWhile_cons, List.dropWhile_cons, ha x (by simp), h1, h2]

/-- A new record of a writer takes its place. -/
theorem rPut_flat {C : Int → List Rec} (hC : GoodC C) {x : Rec} (hw : 0 ≤ x.s.w ∧ x.s.w ≤ 11) (hq : x.s.q = ((C x.s.w).length : Int) + 1) : rPut (flatC C) x.mk' = flatC (updC C x.s.w (C x.s.w ++ [x])) := by
  obtain ⟨n, hn⟩ := Int.eq_ofNat_of_zero_le hw.1
  have h12 : n < 12 := by omega
  have hsw : x.mk'.s.w = n := hn
  have hsq : x.mk'.s.q = ((C n).length : Int) + 1 := by rw [← hn]; exact hq
  have key := takeWhile_mid (p := fun y : Mk => rLess y.s x.mk'.s) (a := flatN C 0 n ++ (C n).map Rec.mk') (b := flatN C (n + 1) (11 - n)) (fun y hy => by
      rcases List.mem_append.1 hy with hy | hy
      · have := flatN_lo hC y hy
        simp only [rLess, Bool.or_eq_true, decide_eq_true_eq]
        left; omega
      · obtain ⟨z, hz, rfl⟩ := List.mem_map.1 hy
        obtain ⟨i, hi⟩ := List.getElem?_of_mem hz
        have hlt := (List.getElem?_eq_some_iff.1 hi).1
        obtain ⟨h1, h2, _⟩ := hC.rcd _ _ _ hi
        have h1' : z.mk'.s.w = n := h1
        have h2' : z.mk'.s.q = (i : Int) + 1 := h2
        simp only [rLess, Bool.or_eq_true, Bool.and_eq_true, decide_eq_true_eq]
        right; omega)
    (fun y hy => by
      have := flatN_hi hC y hy
      simp only [rLess, Bool.or_eq_false_iff, Bool.and_eq_false_iff, decide_eq_false_iff_not]
      exact ⟨by omega, .inl (by omega)⟩)
  rw [rPut, flatC_split C h12, ← List.append_assoc, key.1, key.2, hn, flatC_upd C h12, List.map_append, List.append_assoc, List.append_assoc]
  rfl

theorem findIdx_mid {α : Type} {p : α → Bool} {a b c : List α} (ha : ∀ x ∈ a, p x = false) (hc : ∀ x ∈ c, p x = false) : (a ++ (b ++ c)).findIdx? p = (b.findIdx? p).map (· + a.length) := by
  rw [List.findIdx?_append, List.findIdx?_append]
  have h1 : a.findIdx? p = .none := List.findIdx?_eq_none_iff.2 ha
  have h2 : c.findIdx? p = .none := List.findIdx?_eq_none_iff.2 hc
  rw [h1, h2]
  cases b.findIdx? p <;> simp

/-- The place of a record. -/
theorem rFind_flat {C : Int → List Rec} (hC : GoodC C) (w q : Int) : rFind (flatC C) w q = if (findC C w q).isSome then some ((flatN C 0 w.toNat).length + (q - 1).toNat) else .none := by
  by_cases hw : 0 ≤ w ∧ w ≤ 11
  · obtain ⟨n, rfl⟩ := Int.eq_ofNat_of_zero_le hw.1
    have hn : n < 12 := by omega
    have hmid : rFind (flatC C) n q = (((C n).map Rec.mk').findIdx? fun m => decide (m.s.w = (n : Int)) && decide (m.s.q = q)).map (· + (flatN C 0 n).length) := by
      rw [rFind, flatC_split C hn, findIdx_mid]
      · intro m hm; have := flatN_lo hC m hm; rw [decide_eq_false (by omega), Bool.false_and]
      · intro m hm; have := flatN_hi hC m hm; rw [decide_eq_false (by omega), Bool.false_and]
    rw [hmid, Int.toNat_natCast]
    have hfi : (((C n).map Rec.mk').findIdx? fun m => decide (m.s.w = (n : Int)) && decide (m.s.q = q)) = if (findC C n q).isSome then some (q - 1).toNat else .none := by
      have hrec : ∀ (i : Nat) (x : Rec), (C n)[i]? = some x → (decide (x.mk'.s.w = (n : Int)) && decide (x.mk'.s.q = q)) = decide ((i : Int) + 1 = q) := fun i x hi => by
        obtain ⟨h1, h2, _⟩ := hC.rcd _ _ _ hi
        have h1' : x.mk'.s.w = n := h1
        have h2' : x.mk'.s.q = (i : Int) + 1 := h2
        rw [h1', h2', decide_eq_true rfl, Bool.true_and]
      cases hf : findC C n q with
      | none =>
        rw [if_neg (by simp)]
        rw [List.findIdx?_eq_none_iff]
        intro m hm
        obtain ⟨x, hx, rfl⟩ := List.mem_map.1 hm
        obtain ⟨i, hi⟩ := List.getElem?_of_mem hx
        rw [hrec i x hi, decide_eq_false_iff_not]
        intro e
        rw [findC, if_neg (by omega), show (q - 1).toNat = i by omega, hi] at hf
        cases hf
      | some x =>
        show _ = some (q - 1).toNat
        have hq : ¬ q < 1 := fun h => by rw [findC, if_pos h] at hf; cases hf
        rw [findC, if_neg hq] at hf
        have hlt := (List.getElem?_eq_some_iff.1 hf).1
        rw [List.findIdx?_eq_some_iff_getElem]
        refine ⟨by rw [List.length_map]; exact hlt, ?_, fun j hj => ?_⟩
        · rw [List.getElem_map, hrec (q - 1).toNat _ (List.getElem?_eq_getElem hlt)]
          exact decide_eq_true (by omega)
        · rw [List.getElem_map, hrec j _ (List.getElem?_eq_getElem (by omega))]
          simp; omega
    rw [hfi]
    cases (findC C n q).isSome
    · rfl
    · simp only [if_true, Option.map_some]; rw [Nat.add_comm]
  · have hn : findC C w q = .none := by
      unfold findC
      split
      · rfl
      · rw [hC.out w hw]; rfl
    rw [hn, if_neg (by simp), rFind, List.findIdx?_eq_none_iff]
    intro m hm
    obtain ⟨h1, h2, _⟩ := mem_flatC hC hm
    rw [decide_eq_false (by intro e; exact hw (by omega)), Bool.false_and]

/-- A record is replaced. -/
theorem flatC_set {C : Int → List Rec} {w : Nat} (hw : w < 12) {i : Nat} (x : Rec) (hi : i < (C w).length) : (flatC C).set ((flatN C 0 w).length + i) x.mk' = flatC (updC C w ((C w).set i x)) := by
  rw [flatC_upd C hw, flatC_split C hw, List.set_append_right _ _ (Nat.le_add_right _ _), Nat.add_sub_cancel_left, List.set_append_left _ _ (by rw [List.length_map]; exact hi), List.map_set]
theorem flatC_get {C : Int → List Rec} {w : Nat} (hw : w < 12) {i : Nat} {x : Rec} (hi : (C w)[i]? = some x) : (flatC C)[(flatN C 0 w).length + i]? = some x.mk' := by
  have hlt := (List.getElem?_eq_some_iff.1 hi).1
  rw [flatC_split C hw, List.getElem?_append_right (Nat.le_add_right _ _), Nat.add_sub_cancel_left, List.getElem?_append_left (by rw [List.length_map]; exact hlt), List.getElem?_map, hi]; rfl

end Go.Proofs.YtoddabjacjkjbaaDoor
