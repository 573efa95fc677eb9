/-
  A small separation logic over the model's worlds: heap assertions, what a call may change, and contracts of functions. Nothing here names a program.
-/
import Derived.WalkKit
import Derived.Lib.Strings
import Derived.Laws.StructEq
namespace Go.Proofs.YtoddabjacjkjbaaDoor
open Go Go.RowKit

/-- The row of a slice, one of many. -/
structure RowD where
  A : Option Addr
  n : Nat
  cap : Nat
  e : TypeId
  sz : Nat
  xs : List Value
  fz : Nat × Nat

/-- A piece of memory of the call's own: a block of cells; the row of a slice; an object that is no row of cells (a map, an iterator); memory that is only read from now on; or the rows of many slices. -/
inductive HA where
  | blk (g : Nat) (t : TypeId) (cs : List Value)
  | row (A : Option Addr) (n cap : Nat) (e : TypeId) (sz : Nat) (xs : List Value) (fz : Nat × Nat)
  | obj (r : Nat) (o : Obj)
  | ro (ids : List Nat) (C : Addr → Value → Prop)
  | rows (l : List RowD)

abbrev Hp := List HA

def rowIds : Option Addr → List Nat
  | some a => [a.block]
  | .none => []
def rowHolds (w : World) (A : Option Addr) (n cap : Nat) (e : TypeId) (sz : Nat) (xs : List Value) (fz : Nat × Nat) : Prop :=
  xs.length = n * sz ∧ n ≤ cap ∧ cap ≤ maxLen ∧ (∀ x ∈ xs, x.oneCell' = true) ∧
      match A with
      | .none => cap = 0
      | some a => a.off = 0 ∧ a.spot = .none ∧ ∃ rest, w.heap[a.block]? = some (.cells (xs ++ rest).toArray e fz) ∧ (xs ++ rest).length = cap * sz ∧ (fz = (0, 0) ∨ cap * sz ≤ fz.1)
def rowCell : Option Addr → List Value → Addr → Value → Prop
  | some b, xs, a, v => a.block = b.block ∧ a.spot = .none ∧ xs[a.off]? = some v
  | .none, _, _, _ => False
def RowD.ids (r : RowD) : List Nat := rowIds r.A
def RowD.holds (w : World) (r : RowD) : Prop := rowHolds w r.A r.n r.cap r.e r.sz r.xs r.fz
def RowD.cell (r : RowD) (a : Addr) (v : Value) : Prop := rowCell r.A r.xs a v
/-- The row alone. -/
def RowD.ha (r : RowD) : HA := .row r.A r.n r.cap r.e r.sz r.xs r.fz

def HA.ids : HA → List Nat
  | .blk g _ _ => [g]
  | .row A _ _ _ _ _ _ => rowIds A
  | .obj r _ => [r]
  | .ro ids _ => ids
  | .rows l => l.flatMap RowD.ids

def HA.holds (w : World) : HA → Prop
  | .blk g t cs => w.heap[g]? = some (.cells cs.toArray t (0, 0))
  | .row A n cap e sz xs fz => rowHolds w A n cap e sz xs fz
  | .obj r o => w.heap[r]? = some o ∧ ∀ c t f, o ≠ .cells c t f
  | .ro ids C => (∀ g ∈ ids, g < w.heap.size) ∧ ∀ a v, C a v → a.block ∈ ids ∧ w.cell? a = some v
  | .rows l => ∀ r ∈ l, r.holds w

def HA.cell : HA → Addr → Value → Prop
  | .blk g _ cs, a, v => a.block = g ∧ a.spot = .none ∧ cs[a.off]? = some v
  | .row A _ _ _ _ xs _, a, v => rowCell A xs a v
  | .obj _ _, _, _ => False
  | .ro _ C, a, v => C a v
  | .rows l, a, v => ∃ r ∈ l, r.cell a v

def idsOf (h : Hp) : List Nat := h.flatMap HA.ids

theorem idsOf_append (a b : Hp) : idsOf (a ++ b) = idsOf a ++ idsOf b := by simp [idsOf]
theorem mem_idsOf {h : Hp} {g : Nat} : g ∈ idsOf h ↔ ∃ x ∈ h, g ∈ x.ids := by simp [idsOf]

structure Own (h : Hp) (w : World) : Prop where
  all : ∀ x ∈ h, x.holds w
  nd : (idsOf h).Nodup

theorem heap_lt {w : World} {g : Nat} {o : Obj} (h : w.heap[g]? = some o) : g < w.heap.size := by
  rcases Nat.lt_or_ge g w.heap.size with hlt | hge
  · exact hlt
  · rw [Array.getElem?_eq_none hge] at h; cases h

theorem rowHolds_lt {w : World} {A : Option Addr} {n cap : Nat} {e : TypeId} {sz : Nat} {xs : List Value} {fz : Nat × Nat} (h : rowHolds w A n cap e sz xs fz) : ∀ g ∈ rowIds A, g < w.heap.size := by
  intro g hg
  cases A with
  | none => simp [rowIds] at hg
  | some a =>
    simp only [rowIds, List.mem_singleton] at hg; subst hg
    obtain ⟨_, _, _, _, _, _, rest, hh, _⟩ := h
    exact heap_lt hh
theorem rowHolds_congr {w w' : World} {A : Option Addr} {n cap : Nat} {e : TypeId} {sz : Nat} {xs : List Value} {fz : Nat × Nat} (hk : ∀ g ∈ rowIds A, w'.heap[g]? = w.heap[g]?) (h : rowHolds w A n cap e sz xs fz) : rowHolds w' A n cap e sz xs fz := by
  cases A with
  | none => exact h
  | some a =>
    obtain ⟨h1, h2, h3, h3', h4, h5, rest, hh, hr⟩ := h
    exact ⟨h1, h2, h3, h3', h4, h5, rest, (hk a.block (by simp [rowIds])).trans hh, hr⟩

theorem HA.holds_lt {x : HA} {w : World} (h : x.holds w) : ∀ g ∈ x.ids, g < w.heap.size := by
  intro g hg
  cases x with
  | blk g' t cs =>
    simp only [HA.ids, List.mem_singleton] at hg; subst hg
    exact heap_lt h
  | row A n cap e sz xs fz => exact rowHolds_lt h g hg
  | obj r o =>
    simp only [HA.ids, List.mem_singleton] at hg; subst hg
    exact heap_lt h.1
  | ro ids C => exact h.1 g hg
  | rows l =>
    obtain ⟨r, hr, hgr⟩ := List.mem_flatMap.1 hg
    exact rowHolds_lt (h r hr) g hgr

theorem HA.holds_congr {x : HA} {w w' : World} (hs : w.heap.size ≤ w'.heap.size) (hk : ∀ g ∈ x.ids, w'.heap[g]? = w.heap[g]?) (h : x.holds w) : x.holds w' := by
  cases x with
  | blk g' t cs => exact (hk g' (by simp [HA.ids])).trans h
  | row A n cap e sz xs fz => exact rowHolds_congr hk h
  | obj r o => exact ⟨(hk r (by simp [HA.ids])).trans h.1, h.2⟩
  | ro ids C => exact ⟨fun g hg => Nat.lt_of_lt_of_le (h.1 g hg) hs, fun a v hv => ⟨(h.2 a v hv).1, (World.cell?_of_block (hk a.block (h.2 a v hv).1)).trans (h.2 a v hv).2⟩⟩
  | rows l => exact fun r hr => rowHolds_congr (fun g hg => hk g (List.mem_flatMap.2 ⟨r, hr, hg⟩)) (h r hr)

theorem Own.lt {h : Hp} {w : World} (o : Own h w) {g : Nat} (hg : g ∈ idsOf h) : g < w.heap.size := by
  obtain ⟨x, hx, hgx⟩ := mem_idsOf.1 hg
  exact HA.holds_lt (o.all x hx) g hgx

theorem Own.perm {h h' : Hp} {w : World} (o : Own h w) (p : h.Perm h') : Own h' w :=
  ⟨fun x hx => o.all x (p.mem_iff.2 hx), (List.Perm.nodup_iff (List.Perm.flatMap_right _ p)).1 o.nd⟩

theorem Own.left {a b : Hp} {w : World} (o : Own (a ++ b) w) : Own a w :=
  ⟨fun x hx => o.all x (List.mem_append_left _ hx), by have := o.nd; rw [idsOf_append] at this; exact (List.nodup_append.1 this).1⟩
theorem Own.right {a b : Hp} {w : World} (o : Own (a ++ b) w) : Own b w :=
  ⟨fun x hx => o.all x (List.mem_append_right _ hx), by have := o.nd; rw [idsOf_append] at this; exact (List.nodup_append.1 this).2.1⟩
theorem Own.disj {a b : Hp} {w : World} (o : Own (a ++ b) w) {g : Nat} (ha : g ∈ idsOf a) (hb : g ∈ idsOf b) : False := by
  have := o.nd; rw [idsOf_append] at this
  exact (List.nodup_append.1 this).2.2 g ha g hb rfl
theorem Own.nil (w : World) : Own [] w := ⟨(fun _ h => by cases h), by simp [idsOf]⟩

/-- What a piece of code may have done that began in world 'w' with the memory 'h' to itself. -/
structure Tr (w : World) (h : Hp) (w' : World) (h' : Hp) : Prop where
  os : w'.os = w.os
  tape : w'.tape = w.tape
  output : w'.output = w.output
  size : w.heap.size ≤ w'.heap.size
  keep : ∀ k, k < w.heap.size → k ∉ idsOf h → w'.heap[k]? = w.heap[k]?
  own : Own h' w'
  fresh : ∀ g ∈ idsOf h', g ∈ idsOf h ∨ w.heap.size ≤ g

theorem Tr.refl {w : World} {h : Hp} (o : Own h w) : Tr w h w h := ⟨rfl, rfl, rfl, Nat.le_refl _, fun _ _ _ => rfl, o, fun _ hg => .inl hg⟩

theorem Tr.trans {w w1 w2 : World} {h h1 h2 : Hp} (a : Tr w h w1 h1) (b : Tr w1 h1 w2 h2) : Tr w h w2 h2 := by
  refine ⟨b.os.trans a.os, b.tape.trans a.tape, b.output.trans a.output, Nat.le_trans a.size b.size, fun k hk hn => ?_, b.own, fun g hg => ?_⟩
  · have h1n : k ∉ idsOf h1 := fun hm => by
      rcases a.fresh k hm with h | h
      · exact hn h
      · omega
    exact (b.keep k (Nat.lt_of_lt_of_le hk a.size) h1n).trans (a.keep k hk hn)
  · rcases b.fresh g hg with h | h
    · exact a.fresh g h
    · exact .inr (Nat.le_trans a.size h)

theorem Tr.perm {w w' : World} {h h1 h2 : Hp} (t : Tr w h w' h1) (p : h1.Perm h2) : Tr w h w' h2 :=
  ⟨t.os, t.tape, t.output, t.size, t.keep, t.own.perm p, fun g hg => t.fresh g ((List.Perm.flatMap_right _ p).mem_iff.2 hg)⟩

/-- The frame: a part of the memory is handed to a piece of code; the rest stays as it was. -/
theorem Tr.frame {w0 w1 w2 : World} {h0 h a b a' : Hp} (t : Tr w0 h0 w1 h) (p : h.Perm (a ++ b)) (s : Tr w1 a w2 a') : Tr w0 h0 w2 (b ++ a') := by
  have o := t.own.perm p
  refine (t.perm p).trans ⟨s.os, s.tape, s.output, s.size, fun k hk hn => s.keep k hk (fun hm => hn ?_), ⟨?_, ?_⟩, fun g hg => ?_⟩
  · rw [idsOf_append]; exact List.mem_append_left _ hm
  · intro x hx
    rcases List.mem_append.1 hx with hx | hx
    · have hxw := o.all x (List.mem_append_right _ hx)
      refine HA.holds_congr s.size (fun g hg => s.keep g (HA.holds_lt hxw g hg) (fun hm => ?_)) hxw
      exact o.disj hm (mem_idsOf.2 ⟨x, hx, hg⟩)
    · exact s.own.all x hx
  · rw [idsOf_append]
    refine List.nodup_append.2 ⟨o.right.nd, s.own.nd, fun g hb g' ha e => ?_⟩
    subst e
    rcases s.fresh g ha with h | h
    · exact o.disj h hb
    · have := o.right.lt hb; omega
  · rw [idsOf_append] at hg
    rcases List.mem_append.1 hg with h | h
    · exact .inl (by rw [idsOf_append]; exact List.mem_append_right _ h)
    · rcases s.fresh g h with h | h
      · exact .inl (by rw [idsOf_append]; exact List.mem_append_left _ h)
      · exact .inr h

theorem Tr.below {w w' : World} {h' : Hp} (t : Tr w [] w' h') : Below w.heap.size w w' :=
  ⟨t.os, t.tape, t.output, t.size, fun k hk => t.keep k hk (by simp [idsOf])⟩

/-- Cells that may be read, and that nobody writes. -/
abbrev Rd := Addr → Value → Prop
def RSat (R : Rd) (w : World) : Prop := ∀ a v, R a v → w.cell? a = some v
def Apart (R : Rd) (h : Hp) : Prop := ∀ a v, R a v → a.block ∉ idsOf h
def RH (R : Rd) (h : Hp) : Rd := fun a v => R a v ∨ ∃ x ∈ h, x.cell a v

theorem cell_of_heap {w : World} {a : Addr} {c : Array Value} {t : TypeId} {fz : Nat × Nat} (h : w.heap[a.block]? = some (.cells c t fz)) (hs : a.spot = .none) : w.cell? a = c[a.off]? := by
  unfold World.cell?
  rw [h]
  simp [hs]

theorem rowCell_sound {w : World} {A : Option Addr} {n cap : Nat} {e : TypeId} {sz : Nat} {xs : List Value} {fz : Nat × Nat} (h : rowHolds w A n cap e sz xs fz) {a : Addr} {v : Value} (hc : rowCell A xs a v) : w.cell? a = some v := by
  cases A with
  | none => exact hc.elim
  | some b =>
    obtain ⟨h1, h2, h3⟩ := hc
    obtain ⟨_, _, _, _, _, _, rest, hh, _⟩ := h
    rw [← h1] at hh
    rw [cell_of_heap hh h2]
    have hl := (List.getElem?_eq_some_iff.1 h3).1
    simp only [List.getElem?_toArray]
    rw [List.getElem?_append_left hl]
    exact h3
theorem rowCell_ids {A : Option Addr} {xs : List Value} {a : Addr} {v : Value} (hc : rowCell A xs a v) : a.block ∈ rowIds A := by
  cases A with
  | none => exact hc.elim
  | some b => simp [rowIds, hc.1]

theorem HA.cell_sound {x : HA} {w : World} (h : x.holds w) {a : Addr} {v : Value} (hc : x.cell a v) : w.cell? a = some v := by
  cases x with
  | blk g t cs =>
    obtain ⟨h1, h2, h3⟩ := hc
    subst h1
    rw [cell_of_heap h h2]
    simpa using h3
  | row A n cap e sz xs fz => exact rowCell_sound h hc
  | obj r o => exact hc.elim
  | ro ids C => exact (h.2 a v hc).2
  | rows l =>
    obtain ⟨r, hr, hrc⟩ := hc
    exact rowCell_sound (h r hr) hrc

theorem HA.cell_ids {x : HA} {w : World} (h : x.holds w) {a : Addr} {v : Value} (hc : x.cell a v) : a.block ∈ x.ids := by
  cases x with
  | blk g t cs => simp [HA.ids, hc.1]
  | row A n cap e sz xs fz => exact rowCell_ids hc
  | obj r o => exact hc.elim
  | ro ids C => exact (h.2 a v hc).1
  | rows l =>
    obtain ⟨r, hr, hrc⟩ := hc
    exact List.mem_flatMap.2 ⟨r, hr, rowCell_ids hrc⟩

theorem RSat.rh {R : Rd} {h : Hp} {w : World} (r : RSat R w) (o : Own h w) : RSat (RH R h) w := by
  intro a v hv
  rcases hv with hv | ⟨x, hx, hc⟩
  · exact r a v hv
  · exact HA.cell_sound (o.all x hx) hc

theorem cell_lt {w : World} {a : Addr} {v : Value} (h : w.cell? a = some v) : a.block < w.heap.size := World.block_lt_of_cell? w a h

theorem RSat.tr {R : Rd} {w w' : World} {h h' : Hp} (r : RSat R w) (ap : Apart R h) (t : Tr w h w' h') : RSat R w' := fun a v hv => by
  have hc := r a v hv
  rw [← hc]
  exact World.cell?_of_block (t.keep a.block (cell_lt hc) (ap a v hv))

theorem Apart.tr {R : Rd} {w w' : World} {h h' : Hp} (r : RSat R w) (ap : Apart R h) (t : Tr w h w' h') : Apart R h' := fun a v hv hm => by
  rcases t.fresh _ hm with h | h
  · exact ap a v hv h
  · have := cell_lt (r a v hv); omega

theorem Apart.rh {R : Rd} {a b : Hp} {w : World} (ap : Apart R (a ++ b)) (o : Own (a ++ b) w) : Apart (RH R b) a := by
  intro ad v hv hm
  rcases hv with hv | ⟨x, hx, hc⟩
  · exact ap ad v hv (by rw [idsOf_append]; exact List.mem_append_left _ hm)
  · exact o.disj hm (mem_idsOf.2 ⟨x, hx, HA.cell_ids (o.all x (List.mem_append_right _ hx)) hc⟩)

theorem Apart.perm {R : Rd} {h h' : Hp} (ap : Apart R h) (p : h.Perm h') : Apart R h' := fun a v hv hm => ap a v hv ((List.Perm.flatMap_right _ p).mem_iff.2 hm)
theorem Apart.nil (R : Rd) : Apart R [] := fun _ _ _ h => by simp [idsOf] at h

/-- A CONTRACT: called with the memory 'h' to itself and the cells 'R' to read, the function returns a value and a memory that 'Post' admits, and changes nothing else. -/
def FnPost (w : World) (h : Hp) (Post : Value → Hp → Prop) : Ending → World → Prop :=
  fun e w' => ∃ v h', e = .returned v ∧ Post v h' ∧ Tr w h w' h'

def Callable (P : Program) (f : FuncId) : Prop := ∃ fn, P.funcs[f]? = some fn ∧ fn.body.isNone = false ∧ (fn.name == "runtime.NumGoroutine") = false

theorem run_callFunc_of {P : Program} {f : FuncId} (h : Callable P f) (args : Array Value) (w : World) : (callFunc f args).run P w = .ok (.enter f args) w := by
  obtain ⟨fn, hf, hb, hn⟩ := h
  unfold callFunc
  simp only [Sem.run_bind, run_program, Result.andThen_ok, hf, hn, hb, Bool.false_eq_true, if_false, Sem.run_pure]

def Fn (P : Program) (f : FuncId) (args : List Value) (h : Hp) (R : Rd) (Post : Value → Hp → Prop) : Prop :=
  Callable P f ∧ ∀ w, Own h w → RSat R w → Apart R h → Calls P f args.toArray w (FnPost w h Post)

/-- The same of a call that a 'defer' makes, in a frame that returns. -/
def FnD (P : Program) (f : FuncId) (args : List Value) (h : Hp) (R : Rd) (Post : Hp → Prop) : Prop :=
  Callable P f ∧ ∀ w, Own h w → RSat R w → Apart R h → CallsD P f args.toArray .returning w (fun e u' w' => u' = .returning ∧ FnPost w h (fun _ h' => Post h') e w')

theorem Fn.mono {P : Program} {f : FuncId} {args : List Value} {h : Hp} {R R' : Rd} {Post Post' : Value → Hp → Prop} (c : Fn P f args h R Post)
    (hR : ∀ a v, R a v → R' a v) (hp : ∀ v h', Post v h' → Post' v h') : Fn P f args h R' Post' := ⟨c.1, fun w o r a =>
  (c.2 w o (fun ad v hv => r ad v (hR ad v hv)) (fun ad v hv => a ad v (hR ad v hv))).mono fun _ _ ⟨v, h', he, hq, t⟩ => ⟨v, h', he, hp v h' hq, t⟩⟩

end Go.Proofs.YtoddabjacjkjbaaDoor

namespace Go.Proofs.YtoddabjacjkjbaaDoor
open Go Go.RowKit

inductive TK where
  | int (k : IntKind) | bool | string | ptr | slice (e : TypeId) | array (n : Nat) (e : TypeId) | struct (fs : List (Nat × TypeId)) | func | map (k e : TypeId) | iface | other

def TK.of : TypeDesc → TK
  | .int k => .int k
  | .bool => .bool
  | .string => .string
  | .pointer _ => .ptr
  | .slice e => .slice e
  | .array n e => .array n e
  | .struct fs => .struct (fs.toList.map fun f => (f.offset, f.type))
  | .func _ _ _ => .func
  | .map k e => .map k e
  | .interface _ => .iface
  | _ => .other

/-- The cells of a type that are compared one by one. -/
inductive LK where
  | int (k : IntKind) | bool | string

/-- What is known of a type: its kind, how many cells and bytes a value takes, its zero value; and its cells, if it is a struct of integers, truth values and texts. -/
structure TI where
  kind : TK
  size : Nat
  bytes : Nat
  zero : Value
  flat : Option (List LK) := .none

def flatFs (P : Program) (F : TypeId → Option (List LK)) : List Field → Nat → Option (List LK)
  | [], _ => some []
  | f :: fs, off =>
    match F f.type with
    | some ls =>
      match flatFs P F fs (off + ls.length) with
      | some rs => if f.name != "_" && f.offset == off && ((P.info? f.type).map (·.size) == some ls.length) then some (ls ++ rs) else .none
      | .none => .none
    | .none => .none
def flatT (P : Program) : Nat → TypeId → Option (List LK)
  | 0, _ => .none
  | d + 1, t => match P.underlying t with
    | some .bool => some [.bool]
    | some (.int k) => some [.int k]
    | some .string => some [.string]
    | some (.struct fs) => if P.stoodInHeld t then .none else flatFs P (flatT P d) fs.toList 0
    | _ => .none
def flatOk (P : Program) (t : TypeId) : Option (List LK) → Prop
  | .none => True
  | some ls => flatT P 8 t = some ls ∧ P.eqGuardType P.depth t = false

abbrev Tab := List (TypeId × TI)

def lk : Tab → TypeId → Option TI
  | [], _ => .none
  | (t, i) :: r, u => match Nat.beq t u with
    | true => some i
    | false => lk r u

def TIok (P : Program) (t : TypeId) (ti : TI) : Prop :=
  (P.underlying t).map TK.of = some ti.kind ∧ (P.info? t).map (fun i => (i.size, i.bytes, i.zero)) = some (ti.size, ti.bytes, some ti.zero) ∧ flatOk P t ti.flat

def TabOk (P : Program) : Tab → Prop
  | [] => True
  | (t, i) :: r => TIok P t i ∧ TabOk P r

theorem lk_ok {P : Program} : ∀ {tab : Tab} (_ : TabOk P tab) {t : TypeId} {ti : TI}, lk tab t = some ti → TIok P t ti
  | [], _, _, _, h => by cases h
  | (t', i) :: r, ⟨h1, h2⟩, t, ti, h => by
    unfold lk at h
    split at h
    · rename_i hb
      have := Nat.eq_of_beq_eq_true hb
      subst this
      cases h
      exact h1
    · exact lk_ok h2 h

section info
variable {P : Program} {t : TypeId} {ti : TI}
theorem TIok.desc (h : TIok P t ti) : ∃ d, P.underlying t = some d ∧ TK.of d = ti.kind := by
  have := h.1
  cases hd : P.underlying t with
  | none => rw [hd] at this; cases this
  | some d => rw [hd] at this; exact ⟨d, rfl, by simpa using this⟩
theorem TIok.info (h : TIok P t ti) : ∃ i, P.info? t = some i ∧ i.size = ti.size ∧ i.bytes = ti.bytes ∧ i.zero = some ti.zero := by
  have := h.2.1
  cases hd : P.info? t with
  | none => rw [hd] at this; cases this
  | some i => rw [hd] at this; simp at this; exact ⟨i, rfl, this⟩
theorem TIok.int (h : TIok P t ti) {k : IntKind} (hk : ti.kind = .int k) : P.underlying t = some (.int k) := by
  obtain ⟨d, hd, hf⟩ := h.desc
  rw [hk] at hf; rw [hd]
  cases d <;> simp [TK.of] at hf <;> simp_all
theorem TIok.bool (h : TIok P t ti) (hk : ti.kind = .bool) : P.underlying t = some .bool := by
  obtain ⟨d, hd, hf⟩ := h.desc
  rw [hk] at hf; rw [hd]
  cases d <;> simp [TK.of] at hf <;> simp_all
theorem TIok.string (h : TIok P t ti) (hk : ti.kind = .string) : P.underlying t = some .string := by
  obtain ⟨d, hd, hf⟩ := h.desc
  rw [hk] at hf; rw [hd]
  cases d <;> simp [TK.of] at hf <;> simp_all
theorem TIok.slice (h : TIok P t ti) {e : TypeId} (hk : ti.kind = .slice e) : P.underlying t = some (.slice e) := by
  obtain ⟨d, hd, hf⟩ := h.desc
  rw [hk] at hf; rw [hd]
  cases d <;> simp [TK.of] at hf <;> simp_all
theorem TIok.array (h : TIok P t ti) {n : Nat} {e : TypeId} (hk : ti.kind = .array n e) : P.underlying t = some (.array n e) := by
  obtain ⟨d, hd, hf⟩ := h.desc
  rw [hk] at hf; rw [hd]
  cases d <;> simp [TK.of] at hf <;> simp_all
theorem TIok.ptr (h : TIok P t ti) (hk : ti.kind = .ptr) : ∃ e, P.underlying t = some (.pointer e) := by
  obtain ⟨d, hd, hf⟩ := h.desc
  rw [hk] at hf; rw [hd]
  cases d <;> simp [TK.of] at hf <;> simp_all
theorem TIok.struct (h : TIok P t ti) {fs : List (Nat × TypeId)} (hk : ti.kind = .struct fs) : ∃ fields, P.underlying t = some (.struct fields) ∧ fields.toList.map (fun f => (f.offset, f.type)) = fs := by
  obtain ⟨d, hd, hf⟩ := h.desc
  rw [hk] at hf; rw [hd]
  cases d <;> simp [TK.of] at hf <;> simp_all
end info

def TK.agg : TK → Bool
  | .array _ _ | .struct _ => true
  | _ => false

theorem run_isAgg {P : Program} {t : TypeId} {ti : TI} (h : TIok P t ti) (w : World) : (isAgg t).run P w = .ok ti.kind.agg w := by
  obtain ⟨d, hd, hf⟩ := h.desc
  unfold isAgg
  simp only [Sem.run_bind, run_underlying hd, Result.andThen_ok]
  rw [← hf]
  cases d <;> simp [TK.of, TK.agg]

theorem run_sizeOf {P : Program} {t : TypeId} {ti : TI} (h : TIok P t ti) (w : World) : (sizeOf t).run P w = .ok ti.size w := by
  obtain ⟨i, hi, hs, _⟩ := h.info
  simp [sizeOf, typeInfo, hi, hs]

/-! ### the frame -/
def gt : List Value → Nat → Value
  | [], _ => undef
  | v :: _, 0 => v
  | _ :: l, n + 1 => gt l n
def gtK (K : Value → Prop) : List Value → Nat → Prop
  | [], _ => K undef
  | v :: _, 0 => K v
  | _ :: l, n + 1 => gtK K l n
def stK : List Value → Nat → Value → (List Value → Prop) → Prop
  | [], _, _, K => K []
  | _ :: l, 0, v, K => K (v :: l)
  | x :: l, n + 1, v, K => stK l n v fun l' => K (x :: l')

theorem gtK_eq (K : Value → Prop) : ∀ (l : List Value) (n : Nat), gtK K l n = K (gt l n)
  | [], _ => rfl
  | _ :: _, 0 => rfl
  | _ :: l, n + 1 => gtK_eq K l n
theorem stK_eq : ∀ (l : List Value) (n : Nat) (v : Value) (K : List Value → Prop), stK l n v K = K (l.set n v)
  | [], _, _, _ => by simp [stK]
  | _ :: _, 0, _, _ => rfl
  | x :: l, n + 1, v, K => by simp [stK, stK_eq l n v]
theorem gt_eq : ∀ (l : List Value) (n : Nat), l.toArray.getD n undef = gt l n
  | [], _ => by simp [gt]
  | _ :: _, 0 => by simp [gt]
  | _ :: l, n + 1 => by
    rw [gt, ← gt_eq l n]
    simp

def ev (ρ : List Value) : Operand → Value
  | .tmp t => gt ρ t
  | .const v => v
  | .global g => .pointer (some ⟨g, 0, .none⟩)
  | .func f => .func (.func f) #[] #[]
def evK (ρ : List Value) (x : Operand) (K : Value → Prop) : Prop :=
  match x with
  | .tmp t => gtK K ρ t
  | .const v => K v
  | .global g => K (.pointer (some ⟨g, 0, .none⟩))
  | .func f => K (.func (.func f) #[] #[])
theorem evK_eq (ρ : List Value) (x : Operand) (K : Value → Prop) : evK ρ x K = K (ev ρ x) := by
  cases x <;> simp [evK, ev, gtK_eq]
def evsK (ρ : List Value) : List Operand → (List Value → Prop) → Prop
  | [], K => K []
  | x :: r, K => evK ρ x fun v => evsK ρ r fun l => K (v :: l)
theorem evsK_eq (ρ : List Value) : ∀ (xs : List Operand) (K : List Value → Prop), evsK ρ xs K = K (xs.map (ev ρ))
  | [], _ => rfl
  | x :: r, K => by simp [evsK, evK_eq, evsK_eq ρ r]

/-- The model's own frame. -/
abbrev act (ρ : List Value) (ds : List Deferred) : Act := ⟨ρ.toArray, ds⟩
theorem act_eval (ρ : List Value) (ds : List Deferred) : (act ρ ds).eval = ev ρ := by
  funext x
  cases x <;> simp only [Act.eval, ev]
  exact gt_eq _ _
theorem act_put (ρ : List Value) (ds : List Deferred) (d : Nat) (v : Value) : (act ρ ds).put (some d) v = act (ρ.set d v) ds := by
  simp [Act.put, act]

def allOne : List Value → Bool
  | [] => true
  | v :: l => (match v.oneCell' with | true => allOne l | false => false)
theorem allOne_iff : ∀ {l : List Value}, allOne l = true → ∀ u ∈ l, u.oneCell' = true
  | [], _, _, h => by cases h
  | v :: l, h, u, hu => by
    unfold allOne at h
    split at h
    · rename_i hv
      rcases List.mem_cons.1 hu with rfl | hu
      · exact hv
      · exact allOne_iff h u hu
    · cases h
theorem allOne_of : ∀ {l : List Value}, (∀ u ∈ l, u.oneCell' = true) → allOne l = true
  | [], _ => rfl
  | v :: l, h => by
    unfold allOne
    rw [h v (by simp)]
    exact allOne_of fun u hu => h u (by simp [hu])

/-- The cells of a value, as a list. -/
def cls : Value → List Value
  | .agg c => c.toList
  | v => [v]
theorem cls_eq (v : Value) : v.cells.toList = cls v := by cases v <;> rfl

/-- A range of cells that can be read. -/
def RdN (R : Rd) (a : Addr) (vs : List Value) : Prop := ∀ j v, vs[j]? = some v → R (a.add j) v

/-! ### integers -/
def bitsOp (op : BinOp) (k : IntKind) (x y : Int) : Int :=
  match op with
  | .and => k.wrap ((BitVec.ofInt k.bits x &&& BitVec.ofInt k.bits y).toNat : Int)
  | .or => k.wrap ((BitVec.ofInt k.bits x ||| BitVec.ofInt k.bits y).toNat : Int)
  | .xor => k.wrap ((BitVec.ofInt k.bits x ^^^ BitVec.ofInt k.bits y).toNat : Int)
  | .andNot => k.wrap ((BitVec.ofInt k.bits x &&& ~~~BitVec.ofInt k.bits y).toNat : Int)
  | _ => 0

def intQ (op : BinOp) (k : IntKind) (m : Int) (n : Int) (K : Value → Prop) : Prop :=
  match op with
  | .add => ∀ z : Int, z = k.wrap (m + n) → K (.int k z)
  | .sub => ∀ z : Int, z = k.wrap (m - n) → K (.int k z)
  | .mul => ∀ z : Int, z = k.wrap (m * n) → K (.int k z)
  | .quo => n ≠ 0 ∧ ∀ z : Int, z = k.wrap (m.tdiv n) → K (.int k z)
  | .rem => n ≠ 0 ∧ ∀ z : Int, z = m.tmod n → K (.int k z)
  | .and => ∀ z : Int, z = bitsOp .and k m n → K (.int k z)
  | .or => ∀ z : Int, z = bitsOp .or k m n → K (.int k z)
  | .xor => ∀ z : Int, z = bitsOp .xor k m n → K (.int k z)
  | .andNot => ∀ z : Int, z = bitsOp .andNot k m n → K (.int k z)
  | .shl => 0 ≤ n ∧ ∀ z : Int, z = k.wrap (m * 2 ^ (min n.toNat k.bits)) → K (.int k z)
  | .shr => 0 ≤ n ∧ ∀ z : Int, z = m.fdiv (2 ^ (min n.toNat k.bits)) → K (.int k z)
  | .eql => K (.bool (decide (m = n)))
  | .neq => K (.bool (!decide (m = n)))
  | .lss => K (.bool (decide (m < n)))
  | .leq => K (.bool (decide (m ≤ n)))
  | .gtr => K (.bool (decide (n < m)))
  | .geq => K (.bool (decide (n ≤ m)))

/-- A test that Lean computes. -/
def chkB (b : Bool) (K : Prop) : Prop :=
  match b with
  | true => K
  | false => False
theorem chkB_of {b : Bool} {K : Prop} (h : chkB b K) : b = true ∧ K := by
  cases b
  · exact False.elim h
  · exact ⟨rfl, h⟩

def kindNo : IntKind → Nat
  | .i8 => 0 | .i16 => 1 | .i32 => 2 | .i64 => 3 | .u8 => 4 | .u16 => 5 | .u32 => 6 | .u64 => 7
theorem kindNo_inj {k k' : IntKind} (h : Nat.beq (kindNo k) (kindNo k') = true) : k = k' := by
  have := Nat.eq_of_beq_eq_true h
  cases k <;> cases k' <;> first | rfl | (simp [kindNo] at this)

def isShift : BinOp → Bool
  | .shl | .shr => true
  | _ => false

theorem Int.beq_decide (m n : Int) : (m == n) = decide (m = n) := by
  by_cases h : m = n <;> simp [h]

theorem intQ_sound {P : Program} {t : TypeId} {op : BinOp} {k k' : IntKind} {m n : Int} {K : Value → Prop} (hk : isShift op = true ∨ k = k') (h : intQ op k m n K) :
    ∃ v, (∀ w, (binOp op t (.int k m) (.int k' n)).run P w = .ok v w) ∧ K v := by
  cases op <;> simp only [intQ, isShift, Bool.false_eq_true, false_or, true_or] at h hk
  case shl => obtain ⟨h0, h⟩ := h; exact ⟨_, fun w => by simp [binOp, Op.shift, Int.not_lt.2 h0], h _ rfl⟩
  case shr => obtain ⟨h0, h⟩ := h; exact ⟨_, fun w => by simp [binOp, Op.shift, Int.not_lt.2 h0], h _ rfl⟩
  case quo => subst hk; obtain ⟨h0, h⟩ := h; exact ⟨_, fun w => by simp [binOp, Op.intDiv, h0], h _ rfl⟩
  case rem => subst hk; obtain ⟨h0, h⟩ := h; exact ⟨_, fun w => by simp [binOp, Op.intDiv, h0], h _ rfl⟩
  case eql => subst hk; exact ⟨_, fun w => by simp [binOp, Op.intCmp, Int.beq_decide], h⟩
  case neq => subst hk; exact ⟨_, fun w => by simp [binOp, Op.intCmp, bne, Int.beq_decide], h⟩
  case lss => subst hk; exact ⟨_, fun w => by simp [binOp, Op.intCmp], h⟩
  case leq => subst hk; exact ⟨_, fun w => by simp [binOp, Op.intCmp], h⟩
  case gtr => subst hk; exact ⟨_, fun w => by simp [binOp, Op.intCmp], h⟩
  case geq => subst hk; exact ⟨_, fun w => by simp [binOp, Op.intCmp], h⟩
  all_goals (subst hk; exact ⟨_, fun w => by simp [binOp, Op.intArith, Op.intBits, bitsOp], h _ rfl⟩)

/-! ### one operation that leaves the world alone -/
def addA (a : Addr) (n : Nat) : Addr :=
  match n with
  | 0 => a
  | n + 1 => ⟨a.block, a.off + (n + 1), .none⟩
theorem addA_eq (a : Addr) (n : Nat) : a.add n = addA a n := by
  cases n <;> simp [Addr.add, addA]

def nthK {α : Type} (K : α → Prop) : List α → Nat → Prop
  | [], _ => False
  | x :: _, 0 => K x
  | _ :: l, n + 1 => nthK K l n
theorem nthK_eq {α : Type} (K : α → Prop) : ∀ (l : List α) (n : Nat), nthK K l n → ∃ x, l[n]? = some x ∧ K x
  | [], _, h => h.elim
  | x :: _, 0, h => ⟨x, by simp, h⟩
  | _ :: l, n + 1, h => by obtain ⟨x, hx, hk⟩ := nthK_eq K l n h; exact ⟨x, by simpa using hx, hk⟩

/-! ### structs that are compared cell by cell -/
def alike : List LK → List Value → Bool
  | [], [] => true
  | .int k :: ls, .int k' _ :: vs => (match Nat.beq (kindNo k) (kindNo k') with | true => alike ls vs | false => false)
  | .bool :: ls, .bool _ :: vs => alike ls vs
  | .string :: ls, .string _ :: vs => alike ls vs
  | _, _ => false

theorem alike_length : ∀ {ls : List LK} {vs : List Value}, alike ls vs = true → vs.length = ls.length
  | [], [], _ => rfl
  | [], _ :: _, h => by simp [alike] at h
  | l :: ls, [], h => by cases l <;> simp [alike] at h
  | l :: ls, v :: vs, h => by
    cases l <;> cases v <;> simp only [alike] at h <;> first | (cases h; done) | skip
    · split at h <;> first | (cases h; done) | simp [alike_length h]
    · simp [alike_length h]
    · simp [alike_length h]

theorem alike_append : ∀ {ls rs : List LK} {vs : List Value}, alike (ls ++ rs) vs = true → alike ls (vs.take ls.length) = true ∧ alike rs (vs.drop ls.length) = true
  | [], rs, vs, h => by simp [alike]; simpa using h
  | l :: ls, rs, [], h => by cases l <;> simp [alike] at h
  | l :: ls, rs, v :: vs, h => by
    cases l <;> cases v <;> simp only [List.cons_append, alike] at h <;> first | (cases h; done) | skip
    · split at h
      · rename_i hb
        obtain ⟨h1, h2⟩ := alike_append h
        exact ⟨by simp only [List.length_cons, List.take_succ_cons, alike, hb]; exact h1, by simpa using h2⟩
      · cases h
    · obtain ⟨h1, h2⟩ := alike_append h
      exact ⟨by simpa only [List.length_cons, List.take_succ_cons, alike] using h1, by simpa using h2⟩
    · obtain ⟨h1, h2⟩ := alike_append h
      exact ⟨by simpa only [List.length_cons, List.take_succ_cons, alike] using h1, by simpa using h2⟩

/-- The value of these cells. -/
def FV (P : Program) (t : TypeId) (a : Value) (cs : List Value) : Prop :=
  a.cells.toList = cs ∧ match P.underlying t with
  | some (.struct _) => ∃ c, a = .agg c
  | _ => ∀ c, a ≠ .agg c

theorem FV.one {P : Program} {t : TypeId} {a v : Value} {d : TypeDesc} (hu : P.underlying t = some d) (hd : ∀ fs, d ≠ .struct fs) (h : FV P t a [v]) : a = v := by
  obtain ⟨h1, h2⟩ := h
  rw [hu] at h2
  cases d <;> first | exact absurd rfl (hd _) | skip
  all_goals (cases a <;> first | exact absurd rfl (h2 _) | (simpa [Value.cells] using h1))

theorem alike_int {k : IntKind} {cs : List Value} (h : alike [.int k] cs = true) : ∃ n, cs = [.int k n] := by
  cases cs with
  | nil => simp [alike] at h
  | cons v vs =>
    cases v <;> simp only [alike] at h <;> first | (cases h; done) | skip
    split at h
    · rename_i hb
      have hl := alike_length h
      obtain rfl := kindNo_inj hb
      exact ⟨_, by rw [List.eq_nil_of_length_eq_zero hl]⟩
    · cases h
theorem alike_bool {cs : List Value} (h : alike [.bool] cs = true) : ∃ n, cs = [.bool n] := by
  cases cs with
  | nil => simp [alike] at h
  | cons v vs =>
    cases v <;> simp only [alike] at h <;> first | (cases h; done) | skip
    exact ⟨_, by rw [List.eq_nil_of_length_eq_zero (alike_length h)]⟩
theorem alike_string {cs : List Value} (h : alike [.string] cs = true) : ∃ n, cs = [.string n] := by
  cases cs with
  | nil => simp [alike] at h
  | cons v vs =>
    cases v <;> simp only [alike] at h <;> first | (cases h; done) | skip
    exact ⟨_, by rw [List.eq_nil_of_length_eq_zero (alike_length h)]⟩

theorem get_of_take {xs : List Value} {off n : Nat} {v : Value} (h : (xs.drop off).take n = [v]) : xs[off]? = some v := by
  have h0 : ((xs.drop off).take n)[0]? = some v := by rw [h]; rfl
  have hn : 0 < n := by
    rcases Nat.eq_zero_or_pos n with h1 | h1
    · subst h1; simp at h0
    · exact h1
  rw [List.getElem?_take_of_lt hn] at h0
  simpa using h0

theorem run_part_flat {P : Program} {d : Nat} {t : TypeId} {ls : List LK} (ht : flatT P d t = some ls) (hs : (P.info? t).map (·.size) = some ls.length) {xs : Array Value} {off : Nat} (ha : alike ls ((xs.toList.drop off).take ls.length) = true) :
    ∃ a, (∀ w, (part t xs off).run P w = .ok a w) ∧ FV P t a ((xs.toList.drop off).take ls.length) := by
  cases d with
  | zero => cases ht
  | succ d =>
    unfold flatT at ht
    split at ht
    · rename_i hu
      cases ht
      obtain ⟨n, hn⟩ := alike_bool ha
      have hg := get_of_take hn
      refine ⟨.bool n, fun w => ?_, by rw [hn]; rfl, by rw [hu]; intro c hc; cases hc⟩
      have : xs[off]? = some (.bool n) := by simpa using hg
      simp [part, isAgg, run_underlying hu, this]
    · rename_i k hu
      cases ht
      obtain ⟨n, hn⟩ := alike_int ha
      have hg := get_of_take hn
      refine ⟨.int k n, fun w => ?_, by rw [hn]; rfl, by rw [hu]; intro c hc; cases hc⟩
      have : xs[off]? = some (.int k n) := by simpa using hg
      simp [part, isAgg, run_underlying hu, this]
    · rename_i hu
      cases ht
      obtain ⟨n, hn⟩ := alike_string ha
      have hg := get_of_take hn
      refine ⟨.string n, fun w => ?_, by rw [hn]; rfl, by rw [hu]; intro c hc; cases hc⟩
      have : xs[off]? = some (.string n) := by simpa using hg
      simp [part, isAgg, run_underlying hu, this]
    · rename_i fs hu
      cases hi : P.info? t with
      | none => rw [hi] at hs; cases hs
      | some i =>
        rw [hi] at hs
        simp only [Option.map_some, Option.some.injEq] at hs
        refine ⟨.agg (xs.extract off (off + ls.length)), fun w => ?_, ?_, by rw [hu]; exact ⟨_, rfl⟩⟩
        · simp [part, isAgg, run_underlying hu, sizeOf, typeInfo, hi, hs]
        · show (xs.extract off (off + ls.length)).toList = _
          rw [Array.toList_extract]
          simp [List.extract]
    · cases ht

def EqT (P : Program) (d e : Nat) : Prop := ∀ t ls, flatT P d t = some ls → ∀ a b cs ds, FV P t a cs → FV P t b ds → alike ls cs = true → alike ls ds = true →
  ∃ r, (∀ w, (Op.equalIn (e + d) t a b).run P w = .ok r w) ∧ (r = true ↔ cs = ds)

theorem eqFs {P : Program} {d e : Nat} (IH : EqT P d e) (xs ys : Array Value) : ∀ (fs : List Field) (off : Nat) (rs : List LK), flatFs P (flatT P d) fs off = some rs → alike rs (xs.toList.drop off) = true → alike rs (ys.toList.drop off) = true →
    ∃ r, (∀ w, (Op.eqFields (e + d) xs ys fs).run P w = .ok r w) ∧ (r = true ↔ xs.toList.drop off = ys.toList.drop off)
  | [], off, rs, h, ha, hb => by
    simp only [flatFs, Option.some.injEq] at h
    subst h
    have h1 := List.eq_nil_of_length_eq_zero (alike_length ha)
    have h2 := List.eq_nil_of_length_eq_zero (alike_length hb)
    exact ⟨true, fun w => by simp [Op.eqFields], by rw [h1, h2]; simp⟩
  | f :: fs, off, rs, h, ha, hb => by
    simp only [flatFs] at h
    split at h <;> first | (cases h; done) | skip
    rename_i ls hls
    split at h <;> first | (cases h; done) | skip
    rename_i rs' hrs
    split at h <;> first | (cases h; done) | skip
    rename_i hc
    cases h
    simp only [Bool.and_eq_true, bne_iff_ne, ne_eq, beq_iff_eq] at hc
    obtain ⟨⟨hn, ho⟩, hs⟩ := hc
    obtain ⟨ha1, ha2⟩ := alike_append ha
    obtain ⟨hb1, hb2⟩ := alike_append hb
    rw [List.drop_drop] at ha2 hb2
    obtain ⟨a, pa, fa⟩ := run_part_flat hls hs ha1
    obtain ⟨b, pb, fb⟩ := run_part_flat hls hs hb1
    obtain ⟨r, hr, hi⟩ := IH _ _ hls _ _ _ _ fa fb ha1 hb1
    obtain ⟨r', hr', hi'⟩ := eqFs IH xs ys fs (off + ls.length) rs' hrs ha2 hb2
    have key : (xs.toList.drop off = ys.toList.drop off) ↔ ((xs.toList.drop off).take ls.length = (ys.toList.drop off).take ls.length ∧ xs.toList.drop (off + ls.length) = ys.toList.drop (off + ls.length)) := by
      constructor
      · intro h; exact ⟨by rw [h], by rw [← List.drop_drop, h, List.drop_drop]⟩
      · rintro ⟨h1, h2⟩
        rw [← List.take_append_drop ls.length (xs.toList.drop off), h1, List.drop_drop, h2, ← List.drop_drop, List.take_append_drop]
    rw [key]
    cases r
    · refine ⟨false, fun w => ?_, ?_⟩
      · simp [Op.eqFields, hn, ho, pa, pb, hr]
      · simp only [Bool.false_eq_true, false_iff]
        rintro ⟨h1, _⟩
        exact absurd (hi.2 h1) (by simp)
    · refine ⟨r', fun w => ?_, ?_⟩
      · simp [Op.eqFields, hn, ho, pa, pb, hr, hr']
      · rw [hi']
        exact ⟨fun h => ⟨hi.1 rfl, h⟩, fun h => h.2⟩

theorem eqT {P : Program} : ∀ d e, EqT P d e
  | 0, _, _, _, h => by cases h
  | d + 1, e, t, ls, ht => by
    intro a b cs ds fa fb ha hb
    unfold flatT at ht
    split at ht
    · rename_i hu
      cases ht
      obtain ⟨n, rfl⟩ := alike_bool ha
      obtain ⟨m, rfl⟩ := alike_bool hb
      obtain rfl := fa.one hu (fun _ h => by cases h)
      obtain rfl := fb.one hu (fun _ h => by cases h)
      exact ⟨n == m, fun w => run_equalIn_bool' w (e + d) t n m hu, by simp⟩
    · rename_i k hu
      cases ht
      obtain ⟨n, rfl⟩ := alike_int ha
      obtain ⟨m, rfl⟩ := alike_int hb
      obtain rfl := fa.one hu (fun _ h => by cases h)
      obtain rfl := fb.one hu (fun _ h => by cases h)
      exact ⟨n == m, fun w => run_equalIn_int w (e + d) t k k n m hu, by simp⟩
    · rename_i hu
      cases ht
      obtain ⟨n, rfl⟩ := alike_string ha
      obtain ⟨m, rfl⟩ := alike_string hb
      obtain rfl := fa.one hu (fun _ h => by cases h)
      obtain rfl := fb.one hu (fun _ h => by cases h)
      refine ⟨n.toList == m.toList, fun w => run_equalIn_string w (e + d) t n m hu, ?_⟩
      rw [ByteArray.toList_eq, ByteArray.toList_eq]
      constructor
      · intro h
        have h := eq_of_beq h
        obtain ⟨⟨n⟩⟩ := n
        obtain ⟨⟨m⟩⟩ := m
        simp at h
        rw [h]
      · intro h
        simp only [List.cons.injEq, Value.string.injEq, and_true] at h
        subst h; simp
    · rename_i fs hu
      split at ht
      · cases ht
      · rename_i hst
        obtain ⟨h1, h2⟩ := fa
        obtain ⟨h3, h4⟩ := fb
        rw [hu] at h2 h4
        obtain ⟨xs, rfl⟩ := h2
        obtain ⟨ys, rfl⟩ := h4
        simp only [Value.cells] at h1 h3
        subst h1 h3
        have hf : P.fieldsOf t = fs := by simp [Program.fieldsOf, hu]
        obtain ⟨r, hr, hi⟩ := eqFs (eqT d e) xs ys fs.toList 0 ls ht (by simpa using ha) (by simpa using hb)
        refine ⟨r, fun w => ?_, by simpa using hi⟩
        rw [show e + (d + 1) = (e + d) + 1 by omega, run_equalIn_struct w (e + d) t xs ys (by rw [hf]; exact hu) (by simpa using hst), hf]
        exact hr w
    · cases ht

/-- 'x == y' (eq: true) and 'x != y' on values that are no integers and no strings. -/
def eqV (ti : TI) (a b : Value) (K : Bool → Prop) : Prop :=
  match ti.kind, a, b with
  | .bool, .bool p, .bool q => K (p == q)
  | .ptr, .pointer p, .pointer .none => K p.isNone
  | .slice _, .slice A _ _, .slice .none _ _ => K A.isNone
  | .struct _, .agg p, .agg q => (match ti.flat with
    | some ls => chkB (alike ls p.toList && alike ls q.toList) (∀ r : Bool, (r = true ↔ p.toList = q.toList) → K r)
    | .none => False)
  | _, _, _ => False

def binQ (tab : Tab) (op : BinOp) (t : TypeId) (a b : Value) (K : Value → Prop) : Prop :=
  match a, b with
  | .int k m, .int k' n => (match isShift op with | true => intQ op k m n K | false => chkB (Nat.beq (kindNo k) (kindNo k')) (intQ op k m n K))
  | .string s, .string u => (match op with
    | .eql => K (.bool (decide (s.data.toList = u.data.toList)))
    | .neq => K (.bool (!decide (s.data.toList = u.data.toList)))
    | .add => s.data.toList.length + u.data.toList.length ≤ maxLen ∧ K (.string ⟨⟨s.data.toList ++ u.data.toList⟩⟩)
    | .lss => K (.bool (Op.bytesLess s.data.toList u.data.toList))
    | _ => False)
  | a, b => (match op with
    | .eql => (match lk tab t with | some ti => eqV ti a b fun r => K (.bool r) | .none => False)
    | .neq => (match lk tab t with | some ti => eqV ti a b fun r => K (.bool (!r)) | .none => False)
    | _ => False)

theorem run_equal_bool {P : Program} {t : TypeId} (hu : P.underlying t = some .bool) (d : Nat) (p q : Bool) (w : World) : (Op.equalIn (d + 1) t (.bool p) (.bool q)).run P w = .ok (p == q) w := by
  simp [Op.equalIn, run_underlying hu]
theorem run_equal_ptr {P : Program} {t e : TypeId} (hu : P.underlying t = some (.pointer e)) (d : Nat) (p : Option Addr) (w : World) : (Op.equalIn (d + 1) t (.pointer p) (.pointer .none)).run P w = .ok p.isNone w := by
  cases p <;> simp [Op.equalIn, run_underlying hu]
theorem run_equal_slice {P : Program} {t e : TypeId} (hu : P.underlying t = some (.slice e)) (d : Nat) (A : Option Addr) (n c n' c' : Nat) (w : World) : (Op.equalIn (d + 1) t (.slice A n c) (.slice .none n' c')).run P w = .ok A.isNone w := by
  cases A <;> simp [Op.equalIn, run_underlying hu]

theorem eqV_sound {P : Program} {t : TypeId} {ti : TI} (ht : TIok P t ti) {a b : Value} {K : Bool → Prop} (h : eqV ti a b K) :
    ∃ r, (∀ w, (binOp .eql t a b).run P w = .ok (.bool r) w) ∧ (∀ w, (binOp .neq t a b).run P w = .ok (.bool (!r)) w) ∧ K r := by
  unfold eqV at h
  split at h <;> first | exact h.elim | skip
  all_goals rename_i hkind
  · exact ⟨_, fun w => by simp [binOp, Op.equal, Op.maxDepth, run_equal_bool (ht.bool hkind) 9999], fun w => by simp [binOp, Op.equal, Op.maxDepth, run_equal_bool (ht.bool hkind) 9999], h⟩
  · obtain ⟨e, hu⟩ := ht.ptr hkind
    exact ⟨_, fun w => by simp [binOp, Op.equal, Op.maxDepth, run_equal_ptr hu 9999], fun w => by simp [binOp, Op.equal, Op.maxDepth, run_equal_ptr hu 9999], h⟩
  · exact ⟨_, fun w => by simp [binOp, Op.equal, Op.maxDepth, run_equal_slice (ht.slice hkind) 9999], fun w => by simp [binOp, Op.equal, Op.maxDepth, run_equal_slice (ht.slice hkind) 9999], h⟩
  · rename_i p q
    split at h <;> first | exact h.elim | skip
    rename_i ls hls
    obtain ⟨hc, h⟩ := chkB_of h
    simp only [Bool.and_eq_true] at hc
    obtain ⟨fs, hu, _⟩ := ht.struct hkind
    have hf := ht.2.2
    rw [hls] at hf
    obtain ⟨r, hr, hi⟩ := eqT (P := P) 8 9992 t ls hf.1 (.agg p) (.agg q) p.toList q.toList ⟨rfl, by rw [hu]; exact ⟨_, rfl⟩⟩ ⟨rfl, by rw [hu]; exact ⟨_, rfl⟩⟩ hc.1 hc.2
    refine ⟨r, fun w => ?_, fun w => ?_, h r hi⟩
    · rw [run_eql_struct, hr w]; rfl
    · rw [run_neq_struct, hr w]; rfl

theorem eqGuard_int {P : Program} {op : BinOp} {t : TypeId} {x y : Operand} {k : IntKind} {n : Int} {b : Value} (w : World) : (eqGuard op t x y (.int k n) b).run P w = .ok () w := by
  unfold eqGuard; split <;> simp
theorem eqGuard_string {P : Program} {op : BinOp} {t : TypeId} {x y : Operand} {s : ByteArray} {b : Value} (w : World) : (eqGuard op t x y (.string s) b).run P w = .ok () w := by
  unfold eqGuard; split <;> simp
theorem eqGuard_eqV {P : Program} {op : BinOp} {t : TypeId} {x y : Operand} {ti : TI} (ht : TIok P t ti) {a b : Value} {K : Bool → Prop} (h : eqV ti a b K) (w : World) : (eqGuard op t x y a b).run P w = .ok () w := by
  unfold eqV at h
  split at h <;> first | exact h.elim | skip
  case h_4 =>
    split at h <;> first | exact h.elim | skip
    rename_i ls hls
    have hf := ht.2.2
    rw [hls] at hf
    exact run_eqGuard_agg w op t x y _ _ hf.2
  all_goals (unfold eqGuard; split <;> simp)

theorem Str_eq (s u : ByteArray) : (s.toList == u.toList) = decide (s.data.toList = u.data.toList) := by
  rw [ByteArray.toList_eq, ByteArray.toList_eq]
  by_cases h : s.data.toList = u.data.toList
  · simp [h]
  · rw [decide_eq_false h]; exact beq_eq_false_iff_ne.2 h

theorem binQ_sound {P : Program} {tab : Tab} (htab : TabOk P tab) {op : BinOp} {t : TypeId} {a b : Value} {K : Value → Prop} (h : binQ tab op t a b K) (x y : Operand) :
    ∃ v, (∀ w, (do eqGuard op t x y a b; binOp op t a b : Sem Value).run P w = .ok v w) ∧ K v := by
  unfold binQ at h
  split at h
  · rename_i k m k' n
    have hk' : (isShift op = true ∨ k = k') ∧ intQ op k m n K := by
      cases hs : isShift op
      · rw [hs] at h; obtain ⟨a, b⟩ := chkB_of h; exact ⟨.inr (kindNo_inj a), b⟩
      · rw [hs] at h; exact ⟨.inl rfl, h⟩
    obtain ⟨hk', h⟩ := hk'
    obtain ⟨v, hv, hK⟩ := intQ_sound (P := P) (t := t) hk' h
    exact ⟨v, fun w => by simp only [Sem.run_bind, eqGuard_int, Result.andThen_ok, hv], hK⟩
  · rename_i s u
    split at h <;> first | exact h.elim | skip
    · exact ⟨_, fun w => by simp only [Sem.run_bind, eqGuard_string, Result.andThen_ok, binOp, Op.stringOp, Str_eq]; rfl, h⟩
    · exact ⟨_, fun w => by simp only [Sem.run_bind, eqGuard_string, Result.andThen_ok, binOp, Op.stringOp, Str_eq]; rfl, h⟩
    · obtain ⟨hl, h⟩ := h
      refine ⟨_, fun w => ?_, h⟩
      simp only [Sem.run_bind, eqGuard_string, Result.andThen_ok, binOp]
      rw [run_string_add_sum w s u (by rw [Lib.size_eq, Lib.size_eq]; simpa [maxLen] using hl)]
      congr 2
    · exact ⟨_, fun w => by simp only [Sem.run_bind, eqGuard_string, Result.andThen_ok, binOp, Op.stringOp, ByteArray.toList_eq]; rfl, h⟩
  · split at h <;> first | exact h.elim | skip
    · split at h <;> first | exact h.elim | skip
      rename_i ti hti
      obtain ⟨r, h1, _, hK⟩ := eqV_sound (lk_ok htab hti) h
      exact ⟨_, fun w => by simp only [Sem.run_bind, eqGuard_eqV (lk_ok htab hti) h, Result.andThen_ok, h1], hK⟩
    · split at h <;> first | exact h.elim | skip
      rename_i ti hti
      obtain ⟨r, _, h1, hK⟩ := eqV_sound (lk_ok htab hti) h
      exact ⟨_, fun w => by simp only [Sem.run_bind, eqGuard_eqV (lk_ok htab hti) h, Result.andThen_ok, h1], hK⟩

def isStr : TK → Bool | .string => true | _ => false
def isSlice : TK → Bool | .slice _ => true | _ => false

/-- 'convert' where nothing is made: between integers; a string to a string; bytes to a string (they are read). -/
def convQ (tab : Tab) (R : Rd) (src dst : TypeId) (v : Value) (K : Value → Prop) : Prop :=
  match lk tab src, lk tab dst with
  | some si, some di =>
    match si.kind, di.kind, v with
    | .int _, .int k, .int _ n => ∀ z : Int, z = k.wrap n → K (.int k z)
    | .string, .string, .string s => K (.string s)
    | .slice e, .string, .slice A n _ => (match lk tab e with
      | some ei => (match ei.kind with
        | .int .u8 => ∃ l : List UInt8, l.length = n ∧ (∀ j b, l[j]? = some b → ∃ a, A = some a ∧ R (a.add j) (.int .u8 b.toNat)) ∧ K (.string ⟨⟨l⟩⟩)
        | _ => False)
      | .none => False)
    | _, _, _ => False
  | _, _ => False

def boundLo : Option Value → Option Int
  | .none => some 0
  | some (.int _ n) => some n
  | _ => .none
def boundHi (d : Nat) : Option Value → Option Int
  | .none => some d
  | some (.int _ n) => some n
  | _ => .none
def evO (ρ : List Value) : Option Operand → Option Value
  | .none => .none
  | some x => some (ev ρ x)

def boundAt : Option Value → Option Int
  | some (.int _ n) => some n
  | _ => .none

def sliceBase (A : Option Addr) (cap l sz : Nat) : Option Addr := if cap = l then A else A.map (·.add (l * sz))

def partQ (tab : Tab) (cs : List Value) (off : Nat) (t : TypeId) (K : Value → Prop) : Prop :=
  match lk tab t with
  | some ti => (match ti.kind.agg with
    | true => K (.agg ⟨(cs.drop off).take ti.size⟩)
    | false => nthK K cs off)
  | .none => False

def lenQ (tab : Tab) (t : TypeId) (v : Value) (K : Value → Prop) : Prop :=
  match lk tab t with
  | some ti => (match ti.kind, v with
    | .string, .string s => K (.int .i64 s.data.toList.length)
    | .slice _, .slice _ n _ => K (.int .i64 n)
    | .array n _, _ => K (.int .i64 n)
    | _, _ => False)
  | .none => False

def capQ (tab : Tab) (t : TypeId) (v : Value) (K : Value → Prop) : Prop :=
  match lk tab t with
  | some ti => (match ti.kind, v with
    | .slice _, .slice _ _ c => K (.int .i64 c)
    | _, _ => False)
  | .none => False

def setRange : List Value → Nat → List Value → List Value
  | cs, _, [] => cs
  | cs, off, v :: r => setRange (cs.set off v) (off + 1) r

theorem setRange_cons : ∀ (vs : List Value) (c : Value) (cs : List Value) (off : Nat), setRange (c :: cs) (off + 1) vs = c :: setRange cs off vs
  | [], _, _, _ => rfl
  | v :: r, c, cs, off => by
    show setRange ((c :: cs).set (off + 1) v) (off + 1 + 1) r = c :: setRange (cs.set off v) (off + 1) r
    rw [List.set_cons_succ, setRange_cons r]
/-- Cells laid over the first cells of a list, which is handed on as an explicit list. -/
def layK : List Value → List Value → (List Value → Prop) → Prop
  | cs, [], K => K cs
  | [], _ :: _, _ => False
  | _ :: cs, v :: vs, K => layK cs vs fun l => K (v :: l)
def setRK : List Value → Nat → List Value → (List Value → Prop) → Prop
  | cs, 0, vs, K => layK cs vs K
  | [], _ + 1, _, _ => False
  | c :: cs, n + 1, vs, K => setRK cs n vs fun l => K (c :: l)
theorem layK_eq : ∀ (cs vs : List Value) (K : List Value → Prop), layK cs vs K = (vs.length ≤ cs.length ∧ K (setRange cs 0 vs))
  | cs, [], K => by cases cs <;> simp [layK, setRange]
  | [], v :: vs, K => by simp [layK]
  | c :: cs, v :: vs, K => by
    rw [layK, layK_eq cs vs]
    have e : setRange (c :: cs) 0 (v :: vs) = v :: setRange cs 0 vs := by
      show setRange (v :: cs) (0 + 1) vs = _
      rw [setRange_cons]
    rw [e]
    simp
theorem setRK_eq : ∀ (cs : List Value) (off : Nat) (vs : List Value) (K : List Value → Prop), setRK cs off vs K = (off + vs.length ≤ cs.length ∧ K (setRange cs off vs))
  | cs, 0, vs, K => by
    have e : setRK cs 0 vs K = layK cs vs K := by cases cs <;> rfl
    rw [e, layK_eq, Nat.zero_add]
  | [], n + 1, vs, K => by
    rw [setRK]
    simp
  | c :: cs, n + 1, vs, K => by
    rw [setRK, setRK_eq cs n vs, setRange_cons]
    simp only [List.length_cons]
    have e : (n + vs.length ≤ cs.length) = (n + 1 + vs.length ≤ cs.length + 1) := propext ⟨fun h => by omega, fun h => by omega⟩
    rw [e]

/-- the parts of a struct or an array, laid over its zero value -/
def fillQ (place : Nat → Option (Nat × Nat)) (ρ : List Value) (K : List Value → Prop) : List (Nat × Operand) → List Value → Prop
  | [], cs => K cs
  | (i, x) :: r, cs =>
    match place i with
    | some (off, size) => evK ρ x fun v => chkB (Nat.beq (cls v).length size) (setRK cs off (cls v) fun cs' => fillQ place ρ K r cs')
    | .none => False

def structPlace (tab : Tab) : List (Nat × TypeId) → Nat → Option (Nat × Nat)
  | [], _ => .none
  | (off, t) :: _, 0 => (match lk tab t with | some ti => some (off, ti.size) | .none => .none)
  | _ :: r, n + 1 => structPlace tab r n

def allIn (tab : Tab) : List (Nat × TypeId) → Bool
  | [] => true
  | (_, t) :: r => (match lk tab t with | some _ => allIn tab r | .none => false)

def opQ (tab : Tab) (R : Rd) (ρ : List Value) (K : Value → Prop) : Op → Prop
  | .move x => evK ρ x K
  | .assign x => evK ρ x K
  | .pick c a b => evK ρ c fun vc => (match vc with
    | .bool t => (t = true → evK ρ a K) ∧ (t = false → evK ρ b K)
    | _ => False)
  | .load T a => evK ρ a fun p => (match p, lk tab T with
    | .pointer (some ad), some ti => (match ti.kind.agg with
      | true => ∃ vs, RdN R ad vs ∧ vs.length = ti.size ∧ K (.agg ⟨vs⟩)
      | false => ∃ v, R ad v ∧ K v)
    | _, _ => False)
  | .nilCheck x => evK ρ x fun v => (match v with
    | .pointer (some a) => K (.pointer (some a))
    | .func (.func f) a b => K (.func (.func f) a b)
    | _ => False)
  | .binOp op t x y _ => evK ρ x fun a => evK ρ y fun b => binQ tab op t a b K
  | .unOp op _ x => evK ρ x fun v => (match op, v with
    | .not, .bool b => K (.bool (!b))
    | .neg, .int k n => ∀ z : Int, z = k.wrap (0 - n) → K (.int k z)
    | .xor, .int k n => ∀ z : Int, z = bitsOp .xor k (if k.signed then -1 else k.max) n → K (.int k z)
    | _, _ => False)
  | .convert src dst x => evK ρ x fun v => convQ tab R src dst v K
  | .makeFunc fn first captured => evsK ρ first.toList fun f => evsK ρ captured.toList fun c => K (.func fn ⟨f⟩ ⟨c⟩)
  | .build T parts => (match lk tab T with
    | some ti => (match ti.kind with
      | .struct fs => chkB (allIn tab fs) <| fillQ (structPlace tab fs) ρ (fun cs => K (.agg ⟨cs⟩)) parts.toList (cls ti.zero)
      | .array _ e => (match lk tab e with
        | some ei => fillQ (fun i => some (i * ei.size, ei.size)) ρ (fun cs => K (.agg ⟨cs⟩)) parts.toList (cls ti.zero)
        | .none => False)
      | _ => False)
    | .none => False)
  | .slice T x lo hi .none => evK ρ x fun v => (match lk tab T with
    | some ti => (match ti.kind, v with
      | .string, .string s => ∃ l h : Nat, boundLo (evO ρ lo) = some (l : Int) ∧ boundHi s.data.toList.length (evO ρ hi) = some (h : Int) ∧ l ≤ h ∧ h ≤ s.data.toList.length ∧ K (.string ⟨⟨(s.data.toList.drop l).take (h - l)⟩⟩)
      | .slice e, .slice A n cap => (match lk tab e with
        | some ei => ∃ l h : Nat, boundLo (evO ρ lo) = some (l : Int) ∧ boundHi n (evO ρ hi) = some (h : Int) ∧ l ≤ h ∧ h ≤ cap ∧ K (.slice (sliceBase A cap l ei.size) (h - l) (cap - l))
        | .none => False)
      | .array n e, .pointer (some a) => (match lk tab e with
        | some ei => ∃ l h : Nat, boundLo (evO ρ lo) = some (l : Int) ∧ boundHi n (evO ρ hi) = some (h : Int) ∧ l ≤ h ∧ h ≤ n ∧ K (.slice (sliceBase (some a) n l ei.size) (h - l) (n - l))
        | .none => False)
      | _, _ => False)
    | .none => False)
  | .fieldAddr S x f => evK ρ x fun v => (match v, lk tab S with
    | .pointer (some a), some ti => (match ti.kind with
      | .struct fs => nthK (fun fd : Nat × TypeId => match lk tab fd.2 with
        | some fi => chkB (Nat.blt 0 fi.size) (K (.pointer (some (addA a fd.1))))
        | .none => False) fs f
      | _ => False)
    | _, _ => False)
  | .field S x f => evK ρ x fun v => (match v, lk tab S with
    | .agg c, some ti => (match ti.kind with
      | .struct fs => nthK (fun fd : Nat × TypeId => partQ tab c.toList fd.1 fd.2 K) fs f
      | _ => False)
    | _, _ => False)
  | .indexAddr T x i => evK ρ x fun v => evK ρ i fun iv => (match iv, lk tab T with
    | .int _ i, some ti => (match ti.kind, v with
      | .slice e, .slice A n _ => (match lk tab e with
        | some ei => 0 ≤ i ∧ i < n ∧ ∃ a, A = some a ∧ K (.pointer (some (addA a (i.toNat * ei.size))))
        | .none => False)
      | .array n e, .pointer (some a) => (match lk tab e with
        | some ei => 0 ≤ i ∧ i < (n : Int) ∧ K (.pointer (some (addA a (i.toNat * ei.size))))
        | .none => False)
      | _, _ => False)
    | _, _ => False)
  | .index T x i => evK ρ x fun v => evK ρ i fun iv => (match iv, lk tab T with
    | .int _ i, some ti => (match ti.kind, v with
      | .string, .string s => 0 ≤ i ∧ ∃ b : UInt8, s.data.toList[i.toNat]? = some b ∧ K (.int .u8 b.toNat)
      | .array n e, .agg c => (match lk tab e with
        | some ei => 0 ≤ i ∧ i < (n : Int) ∧ partQ tab c.toList (i.toNat * ei.size) e K
        | .none => False)
      | _, _ => False)
    | _, _ => False)
  | .extract x i => evK ρ x fun v => (match v with
    | .tuple vs => nthK K vs.toList i
    | _ => False)
  | .call { callee := .builtin .len, args, argTypes } => (match args.toList, argTypes.toList with
    | [x], [t] => evK ρ x fun v => lenQ tab t v K
    | _, _ => False)
  | .call { callee := .builtin .max, args, .. } => (match args.toList with
    | [x, y] => evK ρ x fun a => evK ρ y fun b => (match a, b with
      | .int k m, .int _ n => ∀ z : Int, z = max m n → K (.int k z)
      | _, _ => False)
    | _ => False)
  | .call { callee := .builtin .min, args, .. } => (match args.toList with
    | [x, y] => evK ρ x fun a => evK ρ y fun b => (match a, b with
      | .int k m, .int _ n => ∀ z : Int, z = min m n → K (.int k z)
      | _, _ => False)
    | _ => False)
  | .slice T x lo hi (some mx) => evK ρ x fun v => (match lk tab T with
    | some ti => (match ti.kind, v with
      | .slice e, .slice A _ cap => (match lk tab e with
        | some ei => ∃ l h m : Nat, boundLo (evO ρ lo) = some (l : Int) ∧ boundAt (evO ρ hi) = some (h : Int) ∧ boundAt (some (ev ρ mx)) = some (m : Int) ∧ l ≤ h ∧ h ≤ m ∧ m ≤ cap ∧ K (.slice (sliceBase A m l ei.size) (h - l) (m - l))
        | .none => False)
      | _, _ => False)
    | .none => False)
  | .call { callee := .builtin .cap, args, argTypes } => (match args.toList, argTypes.toList with
    | [x], [t] => evK ρ x fun v => capQ tab t v K
    | _, _ => False)
  | _ => False

end Go.Proofs.YtoddabjacjkjbaaDoor

namespace Go.Proofs.YtoddabjacjkjbaaDoor
open Go Go.RowKit

theorem loadCells_sound {P : Program} {R : Rd} {w : World} (hr : RSat R w) {a : Addr} {vs : List Value} (h : RdN R a vs) : (loadCells a vs.length).run P w = .ok ⟨vs⟩ w := by
  have key : ∀ (l : List Value) (i : Nat) (acc : Array Value), (∀ j v, l[j]? = some v → R (a.add (i + j)) v) → (loadCellsFrom a i l.length acc).run P w = .ok (acc ++ l.toArray) w := by
    intro l
    induction l with
    | nil => intro i acc _; simp [loadCellsFrom]
    | cons x l ih =>
      intro i acc hl
      have h0 := hr _ _ (hl 0 x (by simp))
      simp only [Nat.add_zero] at h0
      have := ih (i + 1) (acc.push x) (fun j v hv => by have := hl (j + 1) v (by simpa using hv); rwa [show i + (j + 1) = i + 1 + j by omega] at this)
      simp only [List.length_cons, loadCellsFrom, load, Sem.run_bind, Sem.run, h0, Result.andThen_ok, this]
      simp
  have := key vs 0 #[] (fun j v hv => by simpa using h j v hv)
  simpa [loadCells] using this

theorem run_loadVar_agg {P : Program} {R : Rd} {w : World} (hr : RSat R w) {t : TypeId} {ti : TI} (ht : TIok P t ti) (hk : ti.kind.agg = true) {a : Addr} {vs : List Value} (h : RdN R a vs) (hl : vs.length = ti.size) :
    (loadVar t a).run P w = .ok (.agg ⟨vs⟩) w := by
  unfold loadVar
  simp only [Sem.run_bind, run_isAgg ht, Result.andThen_ok, hk, if_true, run_sizeOf ht, ← hl, loadCells_sound hr h, Sem.run_pure]

theorem run_loadVar_one {P : Program} {R : Rd} {w : World} (hr : RSat R w) {t : TypeId} {ti : TI} (ht : TIok P t ti) (hk : ti.kind.agg = false) {a : Addr} {v : Value} (h : R a v) :
    (loadVar t a).run P w = .ok v w := by
  unfold loadVar
  simp [Sem.run_bind, run_isAgg ht, Result.andThen_ok, hk, load, Sem.run, hr _ _ h]

theorem foldl_push (l : List UInt8) : ∀ s : ByteArray, (l.map fun b => ((b.toNat : Nat) : Int)).foldl (fun r n => r.push (UInt8.ofNat n.toNat)) s = ⟨⟨s.data.toList ++ l⟩⟩ := by
  induction l with
  | nil => intro s; simp
  | cons b l ih =>
    intro s
    simp only [List.map_cons, List.foldl_cons]
    rw [ih]
    congr 2
    simp [ByteArray.push]

theorem run_bytesToStr {P : Program} {R : Rd} {w : World} (hr : RSat R w) {A : Option Addr} {n c : Nat} {l : List UInt8} (hl : l.length = n)
    (h : ∀ j b, l[j]? = some b → ∃ a, A = some a ∧ R (a.add j) (.int .u8 b.toNat)) : (Conv.bytesToString (.slice A n c)).run P w = .ok (.string ⟨⟨l⟩⟩) w := by
  cases A with
  | none =>
    cases l with
    | nil => simp [Conv.bytesToString]; rfl
    | cons b l => obtain ⟨a, ha, _⟩ := h 0 b (by simp); cases ha
  | some a =>
    have hrd : RdN R a (l.map fun b => Value.int .u8 b.toNat) := by
      intro j v hv
      rw [List.getElem?_map] at hv
      cases hb : l[j]? with
      | none => rw [hb] at hv; cases hv
      | some b =>
        rw [hb] at hv
        simp only [Option.map_some, Option.some.injEq] at hv
        obtain ⟨a', ha, hR⟩ := h j b hb
        cases ha
        rw [← hv]; exact hR
    have hc := loadCells_sound (P := P) hr hrd
    rw [List.length_map, hl] at hc
    have := run_bytesToString (P := P) w a n c (l.map fun b => ((b.toNat : Nat) : Int)) (by rw [hc, List.map_map]; rfl)
    rw [this, foldl_push]
    simp

theorem boundLo_run {P : Program} {x : Option Value} {l h : Nat} (hx : boundLo x = some (l : Int)) (hlh : l ≤ h) (code : BoundsCode) (w : World) :
    (match x with | some v => Instr.sliceBound v h code | .none => pure 0 : Sem Nat).run P w = .ok l w := by
  cases x with
  | none =>
    have : l = 0 := by simpa [boundLo, eq_comm] using hx
    subst this; simp
  | some v =>
    cases v <;> simp [boundLo] at hx
    subst hx
    simp [Instr.sliceBound, asIntOf, hlh]

theorem boundHi_run {P : Program} {x : Option Value} {d h y : Nat} (hx : boundHi d x = some (h : Int)) (hh : h ≤ y) (code : BoundsCode) (w : World) :
    (match x with | some v => Instr.sliceBound v y code | .none => pure d : Sem Nat).run P w = .ok h w := by
  cases x with
  | none =>
    have : h = d := by simp [boundHi] at hx; omega
    subst this; simp
  | some v =>
    cases v <;> simp [boundHi] at hx
    subst hx
    simp [Instr.sliceBound, asIntOf, hh]

theorem run_sliceBounds {P : Program} {isSlice : Bool} {n cap l h : Nat} {lo hi : Option Value} (hl : boundLo lo = some (l : Int)) (hh : boundHi n hi = some (h : Int)) (h1 : l ≤ h) (h2 : h ≤ cap) (w : World) :
    (Instr.sliceBounds isSlice n cap lo hi .none).run P w = .ok (l, h, cap) w := by
  unfold Instr.sliceBounds
  simp only [Sem.run_bind, Sem.run_pure, Result.andThen_ok]
  cases hi with
  | none =>
    have : h = n := by simp [boundHi] at hh; omega
    subst this
    have := boundLo_run (P := P) hl h1 .sliceB w
    cases lo with
    | none => simp at this ⊢; exact this
    | some v => simp at this ⊢; simp [this]
  | some u =>
    have h3 := fun code => boundHi_run (P := P) hh h2 code w
    simp only at h3
    have h4 := boundLo_run (P := P) hl h1 .sliceB w
    cases lo with
    | none => simp [h3] at h4 ⊢; exact h4
    | some v => simp [h3] at h4 ⊢; simp [h4]

theorem run_sliceAt_max {P : Program} {t e : TypeId} {ei : TI} (hu : P.underlying t = some (.slice e)) (he : TIok P e ei) {A : Option Addr} {n cap l h m : Nat} {lo hi : Option Value} {mx : Value} (hl : boundLo lo = some (l : Int))
    (hh : boundAt hi = some (h : Int)) (hm : boundAt (some mx) = some (m : Int)) (h1 : l ≤ h) (h2 : h ≤ m) (h3 : m ≤ cap) (w : World) :
    (Instr.sliceAt t (.slice A n cap) lo hi (some mx)).run P w = .ok (.slice (sliceBase A m l ei.size) (h - l) (m - l)) w := by
  cases hi with
  | none => simp [boundAt] at hh
  | some u =>
    cases u <;> simp [boundAt] at hh
    cases mx <;> simp [boundAt] at hm
    subst hh hm
    unfold Instr.sliceAt
    simp only [Sem.run_bind, run_underlying hu, Result.andThen_ok]
    unfold Instr.slice
    simp only [Sem.run_bind, run_underlying hu, Result.andThen_ok, Sem.run_pure]
    unfold Instr.sliceBounds
    cases lo with
    | none =>
      obtain rfl : l = 0 := by simp [boundLo] at hl; omega
      simp [Instr.sliceBound, asIntOf, h2, h3, run_sizeOf he, sliceBase]
    | some v =>
      cases v <;> simp [boundLo] at hl
      subst hl
      simp [Instr.sliceBound, asIntOf, h1, h2, h3, run_sizeOf he, sliceBase]

theorem run_sliceAt_string {P : Program} {t : TypeId} (hu : P.underlying t = some .string) {s : ByteArray} {l h : Nat} {lo hi : Option Value} (hl : boundLo lo = some (l : Int))
    (hh : boundHi s.data.toList.length hi = some (h : Int)) (h1 : l ≤ h) (h2 : h ≤ s.data.toList.length) (w : World) :
    (Instr.sliceAt t (.string s) lo hi .none).run P w = .ok (.string ⟨⟨(s.data.toList.drop l).take (h - l)⟩⟩) w := by
  have hsz := Lib.size_eq s
  rw [← hsz] at hh h2
  unfold Instr.sliceAt
  simp only [Sem.run_bind, run_underlying hu, Result.andThen_ok]
  unfold Instr.slice
  simp only [Sem.run_bind, run_underlying hu, Result.andThen_ok, Option.isSome_none, Bool.false_eq_true, if_false, Sem.run_pure, run_sliceBounds hl hh h1 h2]
  rw [Lib.extract_eq]

theorem run_sliceAt_slice {P : Program} {t e : TypeId} {ei : TI} (hu : P.underlying t = some (.slice e)) (he : TIok P e ei) {A : Option Addr} {n cap l h : Nat} {lo hi : Option Value} (hl : boundLo lo = some (l : Int))
    (hh : boundHi n hi = some (h : Int)) (h1 : l ≤ h) (h2 : h ≤ cap) (w : World) :
    (Instr.sliceAt t (.slice A n cap) lo hi .none).run P w = .ok (.slice (sliceBase A cap l ei.size) (h - l) (cap - l)) w := by
  unfold Instr.sliceAt
  simp only [Sem.run_bind, run_underlying hu, Result.andThen_ok]
  unfold Instr.slice
  simp only [Sem.run_bind, run_underlying hu, Result.andThen_ok, Sem.run_pure, run_sliceBounds hl hh h1 h2, run_sizeOf he]
  rfl

theorem run_sliceAt_array {P : Program} {t e : TypeId} {ei : TI} {n : Nat} (hu : P.underlying t = some (.array n e)) (he : TIok P e ei) {a : Addr} {l h : Nat} {lo hi : Option Value} (hl : boundLo lo = some (l : Int))
    (hh : boundHi n hi = some (h : Int)) (h1 : l ≤ h) (h2 : h ≤ n) (w : World) :
    (Instr.sliceAt t (.pointer (some a)) lo hi .none).run P w = .ok (.slice (sliceBase (some a) n l ei.size) (h - l) (n - l)) w := by
  unfold Instr.sliceAt
  simp only [Sem.run_bind, run_underlying hu, Result.andThen_ok, Instr.sureAddr, Sem.run_pure, run_sliceBounds hl hh h1 h2, run_sizeOf he]
  congr 2
  simp only [sliceBase, Option.map_some]
  split <;> rfl

theorem run_fieldAt {P : Program} {s : TypeId} {fields : Array Field} (hu : P.underlying s = some (.struct fields)) {f : Nat} {fd : Field} (hf : fields[f]? = some fd) {fi : TI} (hi : TIok P fd.type fi) (hz : fi.size ≠ 0) (a : Addr) (w : World) :
    (Instr.fieldAt s (.pointer (some a)) f).run P w = .ok (.pointer (some (a.add fd.offset))) w := by
  unfold Instr.fieldAt
  simp only [Sem.run_bind, run_underlying hu, Result.andThen_ok, hf, Instr.sureAddr, Sem.run_pure, fieldPlace, run_sizeOf hi, hz, if_false]

theorem run_part {P : Program} {tab : Tab} (htab : TabOk P tab) {cs : Array Value} {off : Nat} {t : TypeId} {K : Value → Prop} (h : partQ tab cs.toList off t K) :
    ∃ v, (∀ w, (part t cs off).run P w = .ok v w) ∧ K v := by
  unfold partQ at h
  split at h <;> first | exact h.elim | skip
  rename_i ti hti
  have ok := lk_ok htab hti
  split at h
  · rename_i hk
    refine ⟨_, fun w => ?_, h⟩
    unfold part
    simp only [Sem.run_bind, run_isAgg ok, Result.andThen_ok, hk, if_true, run_sizeOf ok, Sem.run_pure]
    congr 2
    apply Array.ext'
    simp
  · rename_i hk
    obtain ⟨v, hv, hK⟩ := nthK_eq _ _ _ h
    refine ⟨v, fun w => ?_, hK⟩
    unfold part
    simp only [Sem.run_bind, run_isAgg ok, Result.andThen_ok, hk, Bool.false_eq_true, if_false]
    have : cs[off]? = some v := by simpa using hv
    simp [this]

theorem run_field {P : Program} {tab : Tab} (htab : TabOk P tab) {s : TypeId} {fields : Array Field} (hu : P.underlying s = some (.struct fields)) {f : Nat} {fd : Field} (hf : fields[f]? = some fd) {cs : Array Value} {K : Value → Prop} (h : partQ tab cs.toList fd.offset fd.type K) :
    ∃ v, (∀ w, (Instr.field s (.agg cs) f).run P w = .ok v w) ∧ K v := by
  obtain ⟨v, hv, hK⟩ := run_part htab h
  refine ⟨v, fun w => ?_, hK⟩
  unfold Instr.field
  simp only [Sem.run_bind, run_underlying hu, Result.andThen_ok, hf, asAgg, Sem.run_pure, hv]

theorem field_of {fields : Array Field} {fs : List (Nat × TypeId)} (h : fields.toList.map (fun f => (f.offset, f.type)) = fs) {f : Nat} {x : Nat × TypeId} (hx : fs[f]? = some x) :
    ∃ fd, fields[f]? = some fd ∧ fd.offset = x.1 ∧ fd.type = x.2 := by
  subst h
  rw [List.getElem?_map] at hx
  cases hf : fields.toList[f]? with
  | none => rw [hf] at hx; cases hx
  | some fd =>
    rw [hf] at hx
    simp only [Option.map_some, Option.some.injEq] at hx
    refine ⟨fd, by simpa using hf, ?_, ?_⟩ <;> rw [← hx]

theorem run_indexAt_slice {P : Program} {t e : TypeId} {ei : TI} (hu : P.underlying t = some (.slice e)) (he : TIok P e ei) {a : Addr} {n c : Nat} {k : IntKind} {i : Int} (h0 : 0 ≤ i) (h1 : i < n) (w : World) :
    (Instr.indexAt t (.slice (some a) n c) (.int k i)).run P w = .ok (.pointer (some (a.add (i.toNat * ei.size)))) w := by
  unfold Instr.indexAt
  simp [asIntOf, run_underlying hu, run_sizeOf he, h0, h1]

theorem run_indexAt_array {P : Program} {t e : TypeId} {ei : TI} {n : Nat} (hu : P.underlying t = some (.array n e)) (he : TIok P e ei) {a : Addr} {k : IntKind} {i : Int} (h0 : 0 ≤ i) (h1 : i < (n : Int)) (w : World) :
    (Instr.indexAt t (.pointer (some a)) (.int k i)).run P w = .ok (.pointer (some (a.add (i.toNat * ei.size)))) w := by
  unfold Instr.indexAt
  simp [asIntOf, run_underlying hu, run_sizeOf he, h0, h1, Instr.sureAddr]

theorem run_index_string {P : Program} {t : TypeId} (hu : P.underlying t = some .string) {s : ByteArray} {k : IntKind} {i : Int} (h0 : 0 ≤ i) {b : UInt8} (hb : s.data.toList[i.toNat]? = some b) (w : World) :
    (Instr.index t (.string s) (.int k i)).run P w = .ok (.int .u8 b.toNat) w := by
  have hlt := (List.getElem?_eq_some_iff.1 hb)
  obtain ⟨hlt, he⟩ := hlt
  have hs : i.toNat < s.size := by rw [Lib.size_eq]; exact hlt
  have hget : s[i.toNat]? = some b := by
    rw [getElem?_pos s i.toNat hs]
    congr 1
  unfold Instr.index
  simp [asIntOf, run_underlying hu, h0, hget]

theorem run_index_array {P : Program} {tab : Tab} (htab : TabOk P tab) {t e : TypeId} {ei : TI} {n : Nat} (hu : P.underlying t = some (.array n e)) (he : TIok P e ei) {cs : Array Value} {k : IntKind} {i : Int} (h0 : 0 ≤ i) (h1 : i < (n : Int)) {K : Value → Prop}
    (h : partQ tab cs.toList (i.toNat * ei.size) e K) : ∃ v, (∀ w, (Instr.index t (.agg cs) (.int k i)).run P w = .ok v w) ∧ K v := by
  obtain ⟨v, hv, hK⟩ := run_part htab h
  refine ⟨v, fun w => ?_, hK⟩
  unfold Instr.index
  simp [asIntOf, run_underlying hu, run_sizeOf he, h0, h1, hv]

theorem run_len {P : Program} {tab : Tab} (htab : TabOk P tab) {t ty : TypeId} {v : Value} {K : Value → Prop} (h : lenQ tab t v K) :
    ∃ r, (∀ w, (Builtin.len_ #[t] ty #[v]).run P w = .ok r w) ∧ K r := by
  unfold lenQ at h
  split at h <;> first | exact h.elim | skip
  rename_i ti hti
  have ok := lk_ok htab hti
  split at h <;> first | exact h.elim | skip
  · rename_i hk
    exact ⟨_, fun w => by simp [Builtin.len_, run_underlying (ok.string hk), goInt]; rfl, by simpa using h⟩
  · rename_i hk
    exact ⟨_, fun w => by simp [Builtin.len_, run_underlying (ok.slice hk), goInt], h⟩
  · rename_i hk
    exact ⟨_, fun w => by simp [Builtin.len_, run_underlying (ok.array hk), goInt], h⟩

theorem run_cap {P : Program} {tab : Tab} (htab : TabOk P tab) {t ty : TypeId} {v : Value} {K : Value → Prop} (h : capQ tab t v K) :
    ∃ r, (∀ w, (Builtin.cap_ #[t] ty #[v]).run P w = .ok r w) ∧ K r := by
  unfold capQ at h
  split at h <;> first | exact h.elim | skip
  rename_i ti hti
  have ok := lk_ok htab hti
  split at h <;> first | exact h.elim | skip
  rename_i hk
  exact ⟨_, fun w => by simp [Builtin.cap_, run_underlying (ok.slice hk), goInt], h⟩

theorem foldl_setRange (n : Nat) : ∀ (vs : List Value) (cs : Array Value) (off k : Nat), k + vs.length = n →
    (vs.zipIdx k).foldl (fun cs (x : Value × Nat) => cs.setIfInBounds (off + x.2) x.1) cs = (setRange cs.toList (off + k) vs).toArray
  | [], cs, off, k, _ => by simp [setRange]
  | v :: vs, cs, off, k, h => by
    simp only [List.zipIdx_cons, List.foldl_cons]
    rw [foldl_setRange n vs _ off (k + 1) (by simp at h; omega)]
    simp [setRange, Nat.add_assoc]

theorem length_setRange : ∀ (vs cs : List Value) (off : Nat), (setRange cs off vs).length = cs.length
  | [], _, _ => rfl
  | v :: vs, cs, off => by rw [setRange, length_setRange vs]; simp

theorem fill_sound {ρ : List Value} {place place' : Nat → Option (Nat × Nat)} (hp : ∀ i x, place i = some x → place' i = some x) {K : List Value → Prop} : ∀ (parts : List (Nat × Operand)) (cs : List Value),
    fillQ place ρ K parts cs → ∃ cs', Instr.fill place' cs.toArray (parts.map fun (x : Nat × Operand) => (x.1, ev ρ x.2)) = some cs'.toArray ∧ K cs'
  | [], cs, h => ⟨cs, rfl, h⟩
  | (i, x) :: r, cs, h => by
    unfold fillQ at h
    split at h <;> first | exact h.elim | skip
    rename_i off size hpl
    rw [evK_eq] at h
    obtain ⟨hb, h⟩ := chkB_of h
    have h1 := Nat.eq_of_beq_eq_true hb
    rw [setRK_eq] at h
    obtain ⟨h2, h⟩ := h
    obtain ⟨cs', h3, hK⟩ := fill_sound hp r _ h
    refine ⟨cs', ?_, hK⟩
    simp only [List.map_cons, Instr.fill, hp _ _ hpl]
    rw [← cls_eq] at h1 h2 h3
    rw [Array.length_toList] at h1 h2
    rw [if_neg (by simp only [List.size_toArray, Bool.or_eq_true, decide_eq_true_eq]; omega)]
    rw [← h3]
    congr 1
    have := foldl_setRange (ev ρ x).cells.toList.length (ev ρ x).cells.toList cs.toArray off 0 (by simp)
    simp only [Nat.add_zero] at this
    rw [← this]
    rw [← Array.foldl_toList]
    simp

theorem structPlace_ok {P : Program} {tab : Tab} (htab : TabOk P tab) : ∀ (fs : List (Nat × TypeId)) (i : Nat) (x : Nat × Nat), structPlace tab fs i = some x →
    ∃ t ti, fs[i]? = some (x.1, t) ∧ lk tab t = some ti ∧ ti.size = x.2
  | [], _, _, h => by cases h
  | (off, t) :: r, 0, x, h => by
    unfold structPlace at h
    split at h <;> cases h
    rename_i ti hti
    exact ⟨t, ti, rfl, hti, rfl⟩
  | _ :: r, n + 1, x, h => by
    obtain ⟨t, ti, h1, h2⟩ := structPlace_ok htab r n x h
    exact ⟨t, ti, by simpa using h1, h2⟩

theorem run_zero {P : Program} {t : TypeId} {ti : TI} (h : TIok P t ti) (w : World) : (zeroValue t).run P w = .ok ti.zero w := by
  obtain ⟨i, hi, _, _, hz⟩ := h.info
  simp [zeroValue, typeInfo, hi, hz]

theorem run_places {P : Program} {tab : Tab} (htab : TabOk P tab) : ∀ (fields : List Field), allIn tab (fields.map fun f => (f.offset, f.type)) = true →
    ∃ ps : List (Nat × Nat), (∀ w, (fields.mapM (fun f : Field => (do pure (f.offset, ← sizeOf f.type) : Sem (Nat × Nat)))).run P w = .ok ps w) ∧
      ∀ i x, structPlace tab (fields.map fun f => (f.offset, f.type)) i = some x → ps[i]? = some x
  | [], _ => ⟨[], fun w => by simp, fun i x h => by cases h⟩
  | f :: r, h => by
    simp only [List.map_cons, allIn] at h
    split at h <;> first | cases h | skip
    rename_i ti hti
    obtain ⟨ps, hps, hpl⟩ := run_places htab r h
    refine ⟨(f.offset, ti.size) :: ps, fun w => ?_, fun i x hx => ?_⟩
    · simp only [List.mapM_cons, Sem.run_bind, run_sizeOf (lk_ok htab hti), Result.andThen_ok, Sem.run_pure, hps]
    · cases i with
      | zero =>
        simp only [List.map_cons, structPlace, hti, Option.some.injEq] at hx
        simpa using hx
      | succ i => simpa using hpl i x (by simpa [structPlace] using hx)

theorem run_build_struct {P : Program} {tab : Tab} (htab : TabOk P tab) {t : TypeId} {ti : TI} (ht : TIok P t ti) {fs : List (Nat × TypeId)} (hk : ti.kind = .struct fs) (hall : allIn tab fs = true) {ρ : List Value} {K : List Value → Prop} {parts : List (Nat × Operand)}
    (h : fillQ (structPlace tab fs) ρ K parts (cls ti.zero)) : ∃ cs, (∀ w, (Instr.build t (parts.map fun (x : Nat × Operand) => (x.1, ev ρ x.2)).toArray).run P w = .ok (.agg ⟨cs⟩) w) ∧ K cs := by
  obtain ⟨fields, hu, hfs⟩ := ht.struct hk
  rw [← hfs] at hall h
  obtain ⟨ps, hps, hpl⟩ := run_places (P := P) htab fields.toList hall
  obtain ⟨cs, hf, hK⟩ := fill_sound (place' := (ps[·]?)) (fun i x hx => hpl i x hx) parts _ h
  refine ⟨cs, fun w => ?_, hK⟩
  unfold Instr.build
  rw [← cls_eq] at hf
  simp only [Sem.run_bind, run_zero ht, Result.andThen_ok, run_underlying hu]
  rw [Array.mapM_eq_mapM_toList]
  simp only [Sem.run_map, hps]
  simp at hf ⊢
  simp [hf]

theorem run_build_array {P : Program} {t e : TypeId} {ti ei : TI} {n : Nat} (ht : TIok P t ti) (hk : ti.kind = .array n e) (he : TIok P e ei) {ρ : List Value} {K : List Value → Prop} {parts : List (Nat × Operand)}
    (h : fillQ (fun i => some (i * ei.size, ei.size)) ρ K parts (cls ti.zero)) : ∃ cs, (∀ w, (Instr.build t (parts.map fun (x : Nat × Operand) => (x.1, ev ρ x.2)).toArray).run P w = .ok (.agg ⟨cs⟩) w) ∧ K cs := by
  obtain ⟨cs, hf, hK⟩ := fill_sound (place' := fun i => some (i * ei.size, ei.size)) (fun i x hx => hx) parts _ h
  refine ⟨cs, fun w => ?_, hK⟩
  unfold Instr.build
  rw [← cls_eq] at hf
  simp only [Sem.run_bind, run_zero ht, Result.andThen_ok, run_underlying (ht.array hk), run_sizeOf he]
  simp at hf ⊢
  simp [hf]

end Go.Proofs.YtoddabjacjkjbaaDoor

namespace Go.Proofs.YtoddabjacjkjbaaDoor
open Go Go.RowKit

/-- The operation yields 'v' in every world in which the cells of 'R' are as said. -/
def Yld (P : Program) (R : Rd) (ρ : List Value) (o : Oper) (v : Value) : Prop := ∀ w, RSat R w → (execOp (ev ρ) o).run P w = .ok (.value v) w

theorem Yld.of {P : Program} {R : Rd} {ρ : List Value} {o : Oper} {K : Value → Prop} {s : Sem Value} (he : execOp (ev ρ) o = (do pure (.value (← s)) : Sem Next)) (h : ∃ v, (∀ w, RSat R w → s.run P w = .ok v w) ∧ K v) : ∃ v, Yld P R ρ o v ∧ K v := by
  obtain ⟨v, hv, hK⟩ := h
  exact ⟨v, fun w hw => by rw [he]; simp only [Sem.run_bind, hv w hw, Result.andThen_ok, Sem.run_pure], hK⟩

theorem evs_pairs (ρ : List Value) (parts : Array (Nat × Operand)) : (parts.map fun (x : Nat × Operand) => (x.1, ev ρ x.2)) = (parts.toList.map fun (x : Nat × Operand) => (x.1, ev ρ x.2)).toArray := by
  apply Array.ext'
  simp

theorem conv_sound {P : Program} {tab : Tab} (htab : TabOk P tab) {R : Rd} {src dst : TypeId} {v : Value} {K : Value → Prop} (h : convQ tab R src dst v K) :
    ∃ r, (∀ w, RSat R w → (convert src dst v).run P w = .ok r w) ∧ K r := by
  unfold convQ at h
  split at h <;> first | exact h.elim | skip
  rename_i si di hs hd
  have oks := lk_ok htab hs
  have okd := lk_ok htab hd
  obtain ⟨ds, hds, _⟩ := oks.desc
  split at h <;> first | exact h.elim | skip
  · rename_i k1 k2 k3 n hk1 hk2
    refine ⟨_, fun w _ => ?_, h _ rfl⟩
    unfold convert
    simp only [Sem.run_bind, run_underlying (oks.int hk1), run_underlying (okd.int hk2), Result.andThen_ok, Conv.intToInt, Sem.run_pure]
  · rename_i s hk1 hk2
    refine ⟨_, fun w _ => ?_, h⟩
    unfold convert
    simp only [Sem.run_bind, run_underlying (oks.string hk1), run_underlying (okd.string hk2), Result.andThen_ok, Sem.run_pure]
  · rename_i e A n c hk1 hk2
    split at h <;> first | exact h.elim | skip
    rename_i ei he
    split at h <;> first | exact h.elim | skip
    rename_i hk3
    obtain ⟨l, hl, hr, hK⟩ := h
    refine ⟨_, fun w hw => ?_, hK⟩
    unfold convert
    simp only [Sem.run_bind, run_underlying (oks.slice hk1), run_underlying (okd.string hk2), Result.andThen_ok]
    have := run_bytesToStr (P := P) (c := c) hw hl hr
    simp only [run_underlying ((lk_ok htab he).int hk3), Result.andThen_ok, this]

theorem int_max (m n : Int) : (if n > m then n else m) = max m n := by
  have := Int.max_def m n; rw [this]; split <;> split <;> omega
theorem int_min (m n : Int) : (if n < m then n else m) = min m n := by
  have := Int.min_def m n; rw [this]; split <;> split <;> omega

theorem evO_map (ρ : List Value) (x : Option Operand) : x.map (ev ρ) = evO ρ x := by cases x <;> rfl

theorem opQ_sound {P : Program} {tab : Tab} (htab : TabOk P tab) {R : Rd} {ρ : List Value} {o : Oper} {K : Value → Prop} (h : opQ tab R ρ K o.op) : ∃ v, Yld P R ρ o v ∧ K v := by
  obtain ⟨dst, op, type, pos, after, guard⟩ := o
  simp only at h
  unfold opQ at h
  split at h <;> (try rw [evK_eq] at h)
  case h_1 => exact ⟨_, fun w _ => by simp only [execOp, Sem.run_pure], h⟩
  case h_2 => exact ⟨_, fun w _ => by simp only [execOp, Sem.run_pure], h⟩
  case h_3 =>
    rename_i c a b
    split at h <;> first | exact h.elim | skip
    rename_i t hc
    simp only [evK_eq] at h
    cases t
    · exact ⟨_, fun w _ => by simp [execOp, hc, asBool], h.2 rfl⟩
    · exact ⟨_, fun w _ => by simp [execOp, hc, asBool], h.1 rfl⟩
  case h_4 =>
    rename_i T a
    split at h <;> first | exact h.elim | skip
    rename_i ad ti hp hti
    refine Yld.of (s := Instr.loadAt T (ev ρ a)) rfl ?_
    rw [hp]
    have ok := lk_ok htab hti
    split at h
    · rename_i hk
      obtain ⟨vs, h1, h2, hK⟩ := h
      exact ⟨_, fun w hw => by simp only [Instr.loadAt, Instr.sureAddr, Sem.run_bind, Sem.run_pure, Result.andThen_ok, run_loadVar_agg hw ok hk h1 h2], hK⟩
    · rename_i hk
      obtain ⟨v, h1, hK⟩ := h
      exact ⟨_, fun w hw => by simp only [Instr.loadAt, Instr.sureAddr, Sem.run_bind, Sem.run_pure, Result.andThen_ok, run_loadVar_one hw ok hk h1], hK⟩
  case h_5 =>
    rename_i x
    split at h <;> first | exact h.elim | skip
    · rename_i a hx
      exact ⟨_, fun w _ => by simp only [execOp, hx, Sem.run_pure], h⟩
    · rename_i f a b hx
      exact ⟨_, fun w _ => by simp only [execOp, hx, Sem.run_pure], h⟩
  case h_6 =>
    rename_i op t x y ty
    rw [evK_eq] at h
    obtain ⟨v, hv, hK⟩ := binQ_sound (P := P) htab h x y
    exact Yld.of (s := (do eqGuard op t x y (ev ρ x) (ev ρ y); binOp op t (ev ρ x) (ev ρ y))) rfl ⟨v, fun w _ => hv w, hK⟩
  case h_7 =>
    rename_i op t x
    refine Yld.of (s := Op.unary op (ev ρ x)) rfl ?_
    split at h <;> first | exact h.elim | skip
    · rename_i b hx; rw [hx]; exact ⟨_, fun w _ => by simp [Op.unary], h⟩
    · rename_i k n hx; rw [hx]; exact ⟨_, fun w _ => by simp [Op.unary, Op.intArith], h _ rfl⟩
    · rename_i k n hx; rw [hx]; exact ⟨_, fun w _ => by simp [Op.unary, Op.intBits, bitsOp], h _ rfl⟩
  case h_8 =>
    rename_i src dst x
    exact Yld.of (s := convert src dst (ev ρ x)) rfl (conv_sound htab h)
  case h_9 =>
    rename_i fn first captured
    rw [evsK_eq, evsK_eq] at h
    refine ⟨_, fun w _ => ?_, h⟩
    simp only [execOp, Instr.makeFunc, Sem.run_bind, Sem.run_pure, Result.andThen_ok]
    congr 3
    · apply Array.ext'; simp
    · apply Array.ext'; simp
  case h_10 =>
    rename_i T parts
    split at h <;> first | exact h.elim | skip
    rename_i ti hti
    refine Yld.of (s := Instr.build T (parts.map fun (x : Nat × Operand) => (x.1, ev ρ x.2))) rfl ?_
    rw [evs_pairs]
    split at h <;> first | exact h.elim | skip
    · rename_i fs hk
      obtain ⟨cs, hcs, hK⟩ := run_build_struct htab (lk_ok htab hti) hk (chkB_of h).1 (chkB_of h).2
      exact ⟨_, fun w _ => hcs w, hK⟩
    · rename_i n e hk
      split at h <;> first | exact h.elim | skip
      rename_i ei he
      obtain ⟨cs, hcs, hK⟩ := run_build_array (lk_ok htab hti) hk (lk_ok htab he) h
      exact ⟨_, fun w _ => hcs w, hK⟩
  case h_11 =>
    rename_i T x lo hi
    split at h <;> first | exact h.elim | skip
    rename_i ti hti
    refine Yld.of (s := Instr.sliceAt T (ev ρ x) (lo.map (ev ρ)) (hi.map (ev ρ)) .none) rfl ?_
    rw [evO_map, evO_map]
    split at h <;> first | exact h.elim | skip
    · rename_i s hk hx
      obtain ⟨l, hh, h1, h2, h3, h4, hK⟩ := h
      rw [hx]
      exact ⟨_, fun w _ => run_sliceAt_string ((lk_ok htab hti).string hk) h1 h2 h3 h4 w, hK⟩
    · rename_i e A n cap hk hx
      split at h <;> first | exact h.elim | skip
      rename_i ei he
      obtain ⟨l, hh, h1, h2, h3, h4, hK⟩ := h
      rw [hx]
      exact ⟨_, fun w _ => run_sliceAt_slice ((lk_ok htab hti).slice hk) (lk_ok htab he) h1 h2 h3 h4 w, hK⟩
    · rename_i n e a hk hx
      split at h <;> first | exact h.elim | skip
      rename_i ei he
      obtain ⟨l, hh, h1, h2, h3, h4, hK⟩ := h
      rw [hx]
      exact ⟨_, fun w _ => run_sliceAt_array ((lk_ok htab hti).array hk) (lk_ok htab he) h1 h2 h3 h4 w, hK⟩
  case h_12 =>
    rename_i S x f
    split at h <;> first | exact h.elim | skip
    rename_i a ti hx hti
    split at h <;> first | exact h.elim | skip
    rename_i fs hk
    obtain ⟨fields, hu, hfs⟩ := (lk_ok htab hti).struct hk
    obtain ⟨fd, hfd, h⟩ := nthK_eq _ _ _ h
    split at h <;> first | exact h.elim | skip
    rename_i fi hfi
    obtain ⟨d, hd, e1, e2⟩ := field_of hfs hfd
    obtain ⟨hb, h⟩ := chkB_of h
    have hz : fi.size ≠ 0 := by have := Nat.le_of_ble_eq_true hb; omega
    refine Yld.of (s := Instr.fieldAt S (ev ρ x) f) rfl ⟨_, fun w _ => ?_, h⟩
    rw [hx, run_fieldAt hu hd (fi := fi) (by rw [e2]; exact lk_ok htab hfi) hz, e1, addA_eq]
  case h_13 =>
    rename_i S x f
    split at h <;> first | exact h.elim | skip
    rename_i c ti hx hti
    split at h <;> first | exact h.elim | skip
    rename_i fs hk
    obtain ⟨fields, hu, hfs⟩ := (lk_ok htab hti).struct hk
    obtain ⟨fd, hfd, h⟩ := nthK_eq _ _ _ h
    obtain ⟨d, hd, e1, e2⟩ := field_of hfs hfd
    rw [← e1, ← e2] at h
    obtain ⟨v, hv, hK⟩ := run_field htab hu hd h
    exact Yld.of (s := Instr.field S (ev ρ x) f) rfl ⟨_, fun w _ => by rw [hx]; exact hv w, hK⟩
  case h_14 =>
    rename_i T x i
    rw [evK_eq] at h
    split at h <;> first | exact h.elim | skip
    rename_i k i' ti hi hti
    refine Yld.of (s := Instr.indexAt T (ev ρ x) (ev ρ i)) rfl ?_
    split at h <;> first | exact h.elim | skip
    · rename_i e A n c hk hx
      split at h <;> first | exact h.elim | skip
      rename_i ei he
      obtain ⟨h1, h2, a, rfl, hK⟩ := h
      exact ⟨_, fun w _ => by rw [hx, hi, run_indexAt_slice ((lk_ok htab hti).slice hk) (lk_ok htab he) h1 h2, addA_eq], hK⟩
    · rename_i n e a hk hx
      split at h <;> first | exact h.elim | skip
      rename_i ei he
      obtain ⟨h1, h2, hK⟩ := h
      exact ⟨_, fun w _ => by rw [hx, hi, run_indexAt_array ((lk_ok htab hti).array hk) (lk_ok htab he) h1 h2, addA_eq], hK⟩
  case h_15 =>
    rename_i T x i
    rw [evK_eq] at h
    split at h <;> first | exact h.elim | skip
    rename_i k i' ti hi hti
    refine Yld.of (s := Instr.index T (ev ρ x) (ev ρ i)) rfl ?_
    split at h <;> first | exact h.elim | skip
    · rename_i s hk hx
      obtain ⟨h1, b, hb, hK⟩ := h
      exact ⟨_, fun w _ => by rw [hx, hi]; exact run_index_string ((lk_ok htab hti).string hk) h1 hb w, hK⟩
    · rename_i n e c hk hx
      split at h <;> first | exact h.elim | skip
      rename_i ei he
      obtain ⟨h1, h2, h⟩ := h
      obtain ⟨v, hv, hK⟩ := run_index_array htab ((lk_ok htab hti).array hk) (lk_ok htab he) (k := k) h1 h2 h
      exact ⟨_, fun w _ => by rw [hx, hi]; exact hv w, hK⟩
  case h_16 =>
    rename_i x i
    split at h <;> first | exact h.elim | skip
    rename_i vs hx
    obtain ⟨v, hv, hK⟩ := nthK_eq _ _ _ h
    refine Yld.of (s := Instr.extract (ev ρ x) i) rfl ⟨v, fun w _ => ?_, hK⟩
    have : vs[i]? = some v := by simpa using hv
    rw [hx]
    simp [Instr.extract, this]
  case h_17 =>
    rename_i args ats
    split at h <;> first | exact h.elim | skip
    rename_i x t ha ht
    obtain ⟨args⟩ := args
    obtain ⟨ats⟩ := ats
    simp only at ha ht
    subst ha ht
    rw [evK_eq] at h
    obtain ⟨r, hr, hK⟩ := run_len (P := P) (ty := type) htab h
    refine ⟨r, fun w _ => ?_, hK⟩
    simp only [execOp, resolve, invoke, builtin, Sem.run_bind, Sem.run_pure, Result.andThen_ok, List.map_toArray, List.map_cons, List.map_nil, hr]
  case h_18 =>
    rename_i args ats
    split at h <;> first | exact h.elim | skip
    rename_i x y ha
    obtain ⟨args⟩ := args
    simp only at ha
    subst ha
    rw [evK_eq, evK_eq] at h
    split at h <;> first | exact h.elim | skip
    rename_i k m k' n hx hy
    refine ⟨_, fun w _ => ?_, h _ rfl⟩
    simp [execOp, resolve, invoke, builtin, hx, hy, Builtin.max_, Builtin.max2, int_max]
  case h_19 =>
    rename_i args ats
    split at h <;> first | exact h.elim | skip
    rename_i x y ha
    obtain ⟨args⟩ := args
    simp only at ha
    subst ha
    rw [evK_eq, evK_eq] at h
    split at h <;> first | exact h.elim | skip
    rename_i k m k' n hx hy
    refine ⟨_, fun w _ => ?_, h _ rfl⟩
    simp [execOp, resolve, invoke, builtin, hx, hy, Builtin.min_, Builtin.min2, int_min]
  case h_20 =>
    rename_i T x lo hi mx
    split at h <;> first | exact h.elim | skip
    rename_i ti hti
    refine Yld.of (s := Instr.sliceAt T (ev ρ x) (lo.map (ev ρ)) (hi.map (ev ρ)) (some (ev ρ mx))) rfl ?_
    rw [evO_map, evO_map]
    split at h <;> first | exact h.elim | skip
    rename_i e A n cap hk hx
    split at h <;> first | exact h.elim | skip
    rename_i ei he
    obtain ⟨l, hh, m, h1, h2, h3, h4, h5, h6, hK⟩ := h
    rw [hx]
    exact ⟨_, fun w _ => run_sliceAt_max ((lk_ok htab hti).slice hk) (lk_ok htab he) h1 h2 h3 h4 h5 h6 w, hK⟩
  case h_21 =>
    rename_i args ats
    split at h <;> first | exact h.elim | skip
    rename_i x t ha ht
    obtain ⟨args⟩ := args
    obtain ⟨ats⟩ := ats
    simp only at ha ht
    subst ha ht
    rw [evK_eq] at h
    obtain ⟨r, hr, hK⟩ := run_cap (P := P) (ty := type) htab h
    refine ⟨r, fun w _ => ?_, hK⟩
    simp only [execOp, resolve, invoke, builtin, Sem.run_bind, Sem.run_pure, Result.andThen_ok, List.map_toArray, List.map_cons, List.map_nil, hr]
  all_goals exact h.elim

end Go.Proofs.YtoddabjacjkjbaaDoor

namespace Go.Proofs.YtoddabjacjkjbaaDoor
open Go Go.RowKit

/-- Block g is replaced. -/
def setBlk (w : World) (g : Nat) (o : Obj) : World := { w with heap := w.heap.setIfInBounds g o }

theorem setBlk_self (w : World) (g : Nat) (o : Obj) (h : w.heap[g]? = some o) : setBlk w g o = w := by
  unfold setBlk
  have : w.heap.setIfInBounds g o = w.heap := by
    apply Array.ext_getElem?
    intro i
    rw [Array.getElem?_setIfInBounds]
    split
    · rename_i he; subst he
      rw [h]
      split
      · rfl
      · rename_i hn; exact absurd (heap_lt h) hn
    · rfl
  rw [this]

theorem setBlk_setBlk (w : World) (g : Nat) (o o' : Obj) : setBlk (setBlk w g o) g o' = setBlk w g o' := by
  unfold setBlk
  simp

theorem setBlk_get (w : World) (g : Nat) (o : Obj) (h : g < w.heap.size) : (setBlk w g o).heap[g]? = some o := by
  simp [setBlk, h]
theorem setBlk_other (w : World) (g k : Nat) (o : Obj) (h : k ≠ g) : (setBlk w g o).heap[k]? = w.heap[k]? := by
  simp [setBlk, Ne.symm h]

theorem setCell_setBlk (w : World) (g o : Nat) (c : Array Value) (t : TypeId) (fz : Nat × Nat) (h : w.heap[g]? = some (.cells c t fz)) (v : Value) :
    w.setCell ⟨g, o, .none⟩ v = setBlk w g (.cells (c.setIfInBounds o v) t fz) := by
  unfold World.setCell setBlk
  congr 1
  apply Array.ext_getElem?
  intro i
  rw [Array.getElem?_modify, Array.getElem?_setIfInBounds]
  split
  · rename_i he; subst he
    obtain ⟨hlt, he⟩ := Array.getElem?_eq_some_iff.1 h
    simp [hlt, he]
  · rfl

theorem run_storeCells {P : Program} (g o : Nat) (t : TypeId) (fz : Nat × Nat) : ∀ (vs : List Value) (i : Nat) (c : List Value) (w : World), w.heap[g]? = some (.cells c.toArray t fz) → o + i + vs.length ≤ c.length →
    (∀ v ∈ vs, v.oneCell' = true) → (fz = (0, 0) ∨ c.length ≤ fz.1 ∨ o + i + vs.length ≤ fz.1) → (storeCells ⟨g, o, .none⟩ vs i).run P w = .ok () (setBlk w g (.cells (setRange c (o + i) vs).toArray t fz))
  | [], i, c, w, h, _, _, _ => by
    simp only [storeCells, Sem.run_pure, setRange]
    rw [setBlk_self _ _ _ h]
  | v :: vs, i, c, w, h, hl, h1, hf => by
    have hadd : (⟨g, o, .none⟩ : Addr).add i = ⟨g, o + i, .none⟩ := by
      rw [addA_eq]; cases i <;> rfl
    have hc : w.cell? ⟨g, o + i, .none⟩ = some (c[o + i]'(by simp at hl; omega)) := by
      rw [cell_of_heap (a := ⟨g, o + i, .none⟩) h rfl]
      simp
    have hz : w.frozen? ⟨g, o + i, .none⟩ = false := by
      unfold World.frozen?
      rw [h]
      obtain ⟨lo, hi⟩ := fz
      simp only [List.length_cons] at hl hf
      rcases hf with hf | hf | hf
      · simp at hf; simp [hf]
      · simp at hf ⊢; omega
      · simp at hf ⊢; omega
    have hv := h1 v (by simp)
    have ih := run_storeCells (P := P) g o t fz vs (i + 1) (c.set (o + i) v) (setBlk w g (.cells (c.set (o + i) v).toArray t fz)) (setBlk_get _ _ _ (heap_lt h)) (by simp at hl ⊢; omega) (fun u hu => h1 u (by simp [hu])) (by
      rcases hf with hf | hf | hf
      · exact .inl hf
      · exact .inr (.inl (by simpa using hf))
      · exact .inr (.inr (by simp at hf ⊢; omega)))
    rw [setBlk_setBlk] at ih
    have hrun : (store ⟨g, o + i, .none⟩ v).run P w = .ok () (setBlk w g (.cells (c.set (o + i) v).toArray t fz)) := by
      have hs := setCell_setBlk w g (o + i) c.toArray t fz h v
      simp only [List.setIfInBounds_toArray] at hs
      rw [← hs]
      cases v <;> first | (simp [Value.oneCell'] at hv; done) | simp [store, Sem.run, hc, hz]
    simp only [storeCells, Sem.run_bind, hadd, hrun, Result.andThen_ok]
    rw [ih]
    rfl

/-! ### one step of memory, seen from the whole -/
theorem set_perm {α : Type} : ∀ (l : List α) (i : Nat) (x y : α), l[i]? = some x → l.Perm ([x] ++ l.eraseIdx i) ∧ (l.set i y).Perm (l.eraseIdx i ++ [y])
  | [], _, _, _, h => by simp at h
  | a :: l, 0, x, y, h => by
    simp at h; subst h
    exact ⟨by simp, by simpa using (List.perm_append_singleton y l).symm⟩
  | a :: l, i + 1, x, y, h => by
    obtain ⟨h1, h2⟩ := set_perm l i x y (by simpa using h)
    refine ⟨?_, by simpa using h2⟩
    simp only [List.eraseIdx_cons_succ, List.singleton_append] at h1 ⊢
    exact (h1.cons a).trans (List.Perm.swap x a _)

theorem Tr.at_ {w w' : World} {h : Hp} {i : Nat} {x y : HA} (o : Own h w) (hi : h[i]? = some x) (t : Tr w [x] w' [y]) : Tr w h w' (h.set i y) := by
  obtain ⟨h1, h2⟩ := set_perm h i x y hi
  exact ((Tr.refl o).frame h1 t).perm h2.symm

theorem Tr.new {w w' : World} {h : Hp} {x : HA} (o : Own h w) (t : Tr w [] w' [x]) : Tr w h w' (h ++ [x]) :=
  (Tr.refl o).frame (a := []) (List.Perm.refl h) t

theorem Tr.drew {w : World} {h : Hp} (o : Own h w) : Tr w h w.drew h := ⟨rfl, rfl, rfl, Nat.le_refl _, fun _ _ _ => rfl, ⟨fun x hx => HA.holds_congr (Nat.le_refl _) (fun _ _ => rfl) (o.all x hx), o.nd⟩, fun _ hg => .inl hg⟩

theorem Tr.alloc (w : World) (ob : Obj) {x : HA} (hx : x.ids = [w.heap.size]) (hh : x.holds (w.alloc ob)) : Tr w [] (w.alloc ob) [x] := by
  refine ⟨rfl, rfl, rfl, by simp, fun k hk _ => Below.heap_alloc w ob k hk, ⟨fun y hy => ?_, ?_⟩, fun g hg => ?_⟩
  · rw [List.mem_singleton.1 hy]; exact hh
  · simp [idsOf, hx]
  · simp [idsOf, hx] at hg; subst hg; exact .inr (Nat.le_refl _)

theorem Tr.setBlk_ {w : World} {g : Nat} {ob : Obj} {x y : HA} (hx : x.ids = [g]) (hy : y.ids = [g]) (hh : y.holds (setBlk w g ob)) : Tr w [x] (setBlk w g ob) [y] := by
  refine ⟨rfl, rfl, rfl, by simp [setBlk], fun k hk hn => setBlk_other w g k ob (fun e => hn (by simp [idsOf, hx, e])), ⟨fun z hz => ?_, ?_⟩, fun k hk => ?_⟩
  · rw [List.mem_singleton.1 hz]; exact hh
  · simp [idsOf, hy]
  · simp [idsOf, hx, hy] at hk ⊢; exact .inl hk

/-- A store into a known piece of memory. -/
def stE (x : HA) (ad : Addr) (vs : List Value) (K : HA → Prop) : Prop :=
  match x with
  | .blk g t cs => ad.block = g ∧ ad.spot = .none ∧ ad.off + vs.length ≤ cs.length ∧ K (.blk g t (setRange cs ad.off vs))
  | .row A n c e sz xs fz => A = some ⟨ad.block, 0, .none⟩ ∧ ad.spot = .none ∧ ad.off + vs.length ≤ xs.length ∧ K (.row A n c e sz (setRange xs ad.off vs) fz)
  | .obj _ _ => False
  | .ro _ _ => False
  | .rows _ => False

theorem setRange_append : ∀ (vs xs rest : List Value) (o : Nat), o + vs.length ≤ xs.length → setRange (xs ++ rest) o vs = setRange xs o vs ++ rest
  | [], _, _, _, _ => rfl
  | v :: vs, xs, rest, o, h => by
    simp only [List.length_cons] at h
    simp only [setRange]
    rw [List.set_append_left _ _ (by omega), setRange_append vs _ rest (o + 1) (by simp; omega)]

theorem mem_setRange : ∀ (vs cs : List Value) (o : Nat) (x : Value), x ∈ setRange cs o vs → x ∈ cs ∨ x ∈ vs
  | [], _, _, _, h => .inl h
  | v :: vs, cs, o, x, h => by
    rcases mem_setRange vs _ _ x h with h | h
    · rcases List.mem_or_eq_of_mem_set h with h | h
      · exact .inl h
      · exact .inr (by simp [h])
    · exact .inr (by simp [h])

theorem stE_sound {P : Program} {x : HA} {ad : Addr} {vs : List Value} {K : HA → Prop} (h1 : ∀ v ∈ vs, v.oneCell' = true) (h : stE x ad vs K) : ∃ y, K y ∧ ∀ w, x.holds w → ∃ w', (storeCells ad vs).run P w = .ok () w' ∧ Tr w [x] w' [y] := by
  cases x with
  | blk g t cs =>
    obtain ⟨e1, e2, h3, hK⟩ := h
    obtain ⟨b, o, s⟩ := ad
    simp only at e1 e2 h3; subst e1; subst e2
    refine ⟨_, hK, fun w hw => ?_⟩
    have hr := run_storeCells (P := P) b o t (0, 0) vs 0 cs w hw (by simpa using h3) h1 (.inl rfl)
    refine ⟨_, hr, Tr.setBlk_ rfl rfl ?_⟩
    exact setBlk_get _ _ _ (heap_lt hw)
  | row A n c e sz xs fz =>
    obtain ⟨e1, e2, h3, hK⟩ := h
    obtain ⟨b, o, s⟩ := ad
    simp only at e1 e2 h3; subst e1; subst e2
    refine ⟨_, hK, fun w hw => ?_⟩
    obtain ⟨a1, a2, a3, a4, a5, a6, rest, hh, hl, hf⟩ := hw
    simp only [List.length_append] at hl
    have hr := run_storeCells (P := P) b o e fz vs 0 (xs ++ rest) w hh (by simp; omega) h1 (by
      rcases hf with hf | hf
      · exact .inl hf
      · exact .inr (.inl (by simp; omega)))
    refine ⟨_, hr, Tr.setBlk_ rfl rfl ?_⟩
    refine ⟨by rw [length_setRange]; exact a1, a2, a3, fun y hy => ?_, rfl, rfl, rest, ?_, ?_, hf⟩
    · rcases mem_setRange _ _ _ _ hy with hy | hy
      · exact a4 y hy
      · exact h1 y hy
    · rw [setBlk_get _ _ _ (heap_lt hh), Nat.add_zero, setRange_append _ _ _ _ h3]
    · simp only [List.length_append, length_setRange]; omega
  | obj r o => exact h.elim
  | ro ids C => exact h.elim
  | rows l => exact h.elim

/-! ### objects that are no rows of cells -/
theorem run_getObj {P : Program} {w : World} {r : Nat} {o : Obj} (h : w.heap[r]? = some o) (hc : ∀ c t f, o ≠ .cells c t f) : (getObj r).run P w = .ok o w := by
  unfold getObj
  cases o <;> first | exact absurd rfl (hc _ _ _) | simp only [Sem.run, h]
theorem run_setObj {P : Program} {w : World} {r : Nat} {o o' : Obj} (h : w.heap[r]? = some o) (hc : ∀ c t f, o ≠ .cells c t f) : (setObj r o').run P w = .ok () (setBlk w r o') := by
  unfold setObj
  cases o <;> first | exact absurd rfl (hc _ _ _) | (simp only [Sem.run, h]; rfl)
theorem Tr.setObj_ {w : World} {r : Nat} {o o' : Obj} (h : w.heap[r]? = some o) (hc : ∀ c t f, o' ≠ .cells c t f) : Tr w [.obj r o] (setBlk w r o') [.obj r o'] :=
  Tr.setBlk_ rfl rfl ⟨setBlk_get _ _ _ (heap_lt h), hc⟩
theorem Tr.newObj {w : World} (o : Obj) (hc : ∀ c t f, o ≠ .cells c t f) : Tr w [] (w.alloc o) [.obj w.heap.size o] :=
  Tr.alloc w _ rfl ⟨heap_alloc_new w _, hc⟩

end Go.Proofs.YtoddabjacjkjbaaDoor

namespace Go.Proofs.YtoddabjacjkjbaaDoor
open Go Go.RowKit

def snocK (x : HA) (K : Hp → Prop) : Hp → Prop
  | [] => K [x]
  | y :: r => snocK x (fun l => K (y :: l)) r
def apHK (h' : Hp) (K : Hp → Prop) : Hp → Prop
  | [] => K h'
  | y :: r => apHK h' (fun l => K (y :: l)) r
def apVK (l' : List Value) (K : List Value → Prop) : List Value → Prop
  | [] => K l'
  | y :: r => apVK l' (fun l => K (y :: l)) r
def takeK : Nat → Hp → (HA → Hp → Prop) → Prop
  | _, [], _ => False
  | 0, x :: r, K => K x r
  | n + 1, x :: r, K => takeK n r fun y r' => K y (x :: r')
def pickK : List Nat → Hp → (Hp → Hp → Prop) → Prop
  | [], h, K => K [] h
  | i :: is, h, K => takeK i h fun x r => pickK is r fun hs rest => K (x :: hs) rest
def setHK (y : HA) : Nat → Hp → (Hp → Prop) → Prop
  | _, [], K => K []
  | 0, _ :: r, K => K (y :: r)
  | n + 1, x :: r, K => setHK y n r fun r' => K (x :: r')

theorem snocK_eq (x : HA) : ∀ (h : Hp) (K : Hp → Prop), snocK x K h = K (h ++ [x])
  | [], _ => rfl
  | y :: r, K => by simp [snocK, snocK_eq x r]
theorem apHK_eq (h' : Hp) : ∀ (h : Hp) (K : Hp → Prop), apHK h' K h = K (h ++ h')
  | [], _ => rfl
  | y :: r, K => by simp [apHK, apHK_eq h' r]
theorem apVK_eq (h' : List Value) : ∀ (h : List Value) (K : List Value → Prop), apVK h' K h = K (h ++ h')
  | [], _ => rfl
  | y :: r, K => by simp [apVK, apVK_eq h' r]
theorem takeK_sound : ∀ (n : Nat) (h : Hp) (K : HA → Hp → Prop), takeK n h K → ∃ x r, h.Perm (x :: r) ∧ K x r
  | n, [], _, h => by cases n <;> exact False.elim h
  | 0, x :: r, K, h => ⟨x, r, List.Perm.refl _, h⟩
  | n + 1, x :: r, K, h => by
    obtain ⟨y, r', hp, hk⟩ := takeK_sound n r _ h
    exact ⟨y, x :: r', (hp.cons x).trans (List.Perm.swap y x r'), hk⟩
theorem pickK_sound : ∀ (is : List Nat) (h : Hp) (K : Hp → Hp → Prop), pickK is h K → ∃ hs rest, h.Perm (hs ++ rest) ∧ K hs rest
  | [], h, K, hh => ⟨[], h, List.Perm.refl _, hh⟩
  | i :: is, h, K, hh => by
    obtain ⟨x, r, hp, hk⟩ := takeK_sound i h _ hh
    obtain ⟨hs, rest, hp2, hk2⟩ := pickK_sound is r _ hk
    exact ⟨x :: hs, rest, hp.trans (hp2.cons x), hk2⟩
theorem setHK_eq (y : HA) : ∀ (n : Nat) (h : Hp) (K : Hp → Prop), setHK y n h K = K (h.set n y)
  | n, [], K => by cases n <;> rfl
  | 0, x :: r, K => rfl
  | n + 1, x :: r, K => by simp [setHK, setHK_eq y n r]

/-- n copies of the cells of a zero value -/
def repl (z : List Value) : Nat → List Value
  | 0 => []
  | n + 1 => z ++ repl z n

/-- What 'append' adds: the elements of a slice, or the bytes of a string. -/
def srcE (R : Rd) (sz : Nat) (x : Value) (K : Nat → List Value → Prop) : Prop :=
  match x with
  | .slice A m _ => ∃ news : List Value, news.length = m * sz ∧ (∀ j u, news[j]? = some u → ∃ a, A = some a ∧ R (a.add j) u) ∧ K m news
  | .string s => sz = 1 ∧ K s.data.toList.length (s.data.toList.map fun b => .int .u8 b.toNat)
  | _ => False

def isSrc : TK → Bool
  | .slice _ | .string => true
  | _ => false

/-- where the result of an append lies -/
def grow (n : Nat) (A : Option Addr) : Prop := n = 0 ∨ ∃ g, A = some ⟨g, 0, .none⟩

/-- Past the end of the list: another formula. -/
def nthX {α : Type} (K : α → Prop) (D : Prop) : List α → Nat → Prop
  | [], _ => D
  | x :: _, 0 => K x
  | _ :: l, n + 1 => nthX K D l n
theorem nthX_eq {α : Type} (K : α → Prop) (D : Prop) : ∀ (l : List α) (n : Nat), nthX K D l n → D ∨ ∃ x, l[n]? = some x ∧ K x
  | [], _, h => .inl h
  | x :: _, 0, h => .inr ⟨x, by simp, h⟩
  | _ :: l, n + 1, h => by
    rcases nthX_eq K D l n h with h | ⟨x, hx, hk⟩
    · exact .inl h
    · exact .inr ⟨x, by simpa using hx, hk⟩

/-- 'append' to a slice without room that need not be the call's own; index 99 chooses it. -/
def farE (e : TypeId) (ei : TI) (h : Hp) (A : Option Addr) (n cap m : Nat) (news : List Value) (K : Value → Hp → Prop) : Prop :=
  n = 0 ∧ cap = 0 ∧ (m = 0 → K (.slice A 0 0) h) ∧ (0 < m → ∀ (A' : Option Addr) (cap' : Nat), grow (0 + m) A' → snocK (.row A' (0 + m) cap' e ei.size ([] ++ news) (0, 0)) (fun h' => K (.slice A' (0 + m) cap') h') h)

/-- zeros, appended to nil -/
def zerE (e : TypeId) (ei : TI) (h : Hp) (s x : Value) (K : Value → Hp → Prop) : Prop :=
  match s, x with
  | .slice A n cap, .int _ k => chkB (Nat.blt 0 ei.size && Nat.beq (cls ei.zero).length ei.size && allOne (cls ei.zero)) <| A = .none ∧ n = 0 ∧ cap = 0 ∧ ∃ c : Nat, k = (c : Int) ∧ 0 < c ∧ c * ei.bytes ≤ 140737488355328 ∧ c ≤ maxLen ∧
      ∀ (A' : Option Addr) (cap' : Nat), grow c A' → snocK (.row A' c cap' e ei.size (repl (cls ei.zero) c) (0, 0)) (fun h' => K (.slice A' c cap') h') h
  | _, _ => False

def isIntK : TK → Bool
  | .int _ => true
  | _ => false

def appE (tab : Tab) (R : Rd) (h : Hp) (T U : TypeId) (s x : Value) (K : Value → Hp → Prop) : Prop :=
  match lk tab T, lk tab U with
  | some ti, some ui =>
    (match ti.kind with
    | .slice e => (match lk tab e with
      | some ei => (match isIntK ui.kind with
        | true => zerE e ei h s x K
        | false => (match s with
          | .slice A n cap => chkB (isSrc ui.kind && Nat.blt 0 ei.size && Nat.beq (cls ei.zero).length ei.size) <| srcE (RH R h) ei.size x fun m news => allOne news = true ∧ (n + m) * ei.bytes ≤ 140737488355328 ∧ n + m ≤ maxLen ∧
          ((A = .none ∧ n = 0 ∧ cap = 0 ∧ ∀ (A' : Option Addr) (cap' : Nat), grow (0 + m) A' → snocK (.row A' (0 + m) cap' e ei.size ([] ++ news) (0, 0)) (fun h' => K (.slice A' (0 + m) cap') h') h) ∨
           ∃ i, nthX (fun y => (match y with
            | .row A1 n1 cap1 e1 sz1 xs fz => A1 = A ∧ n1 = n ∧ cap1 = cap ∧ e1 = e ∧ sz1 = ei.size ∧ fz = (0, 0) ∧
                ∀ (A' : Option Addr) (cap' : Nat), grow (n + m) A' → setHK (.row A' (n + m) cap' e ei.size (xs ++ news) (0, 0)) i h fun h' => K (.slice A' (n + m) cap') h'
            | _ => False)) (farE e ei h A n cap m news K) h i)
          | _ => False))
      | .none => False)
    | _ => False)
  | _, _ => False

/-- 'copy': the first elements of the source are stored into the slice. -/
def copyE (tab : Tab) (R : Rd) (h : Hp) (T : TypeId) (s x : Value) (K : Value → Hp → Prop) : Prop :=
  match lk tab T, s with
  | some ti, .slice A n _ =>
    (match ti.kind with
    | .slice e => (match lk tab e with
      | some ei => srcE (RH R h) ei.size x fun m news => allOne news = true ∧ ∀ c : Nat, c = min m n →
          (c = 0 ∧ K (.int .i64 c) h) ∨ ∃ ad, A = some ad ∧ ∃ i, nthK (fun y => stE y ad (news.take (c * ei.size)) fun y' => setHK y' i h fun h' => K (.int .i64 c) h') h i
      | .none => False)
    | _ => False)
  | _, _ => False

def makeE (tab : Tab) (h : Hp) (T : TypeId) (l c : Value) (K : Value → Hp → Prop) : Prop :=
  match lk tab T, l, c with
  | some ti, .int _ l, .int _ c =>
    (match ti.kind with
    | .slice e => (match lk tab e with
      | some ei => chkB (Nat.blt 0 ei.size && Nat.beq (cls ei.zero).length ei.size && allOne (cls ei.zero)) <| 0 ≤ l ∧ l ≤ c ∧ (ei.bytes : Int) * c ≤ 281474976710656 ∧ c ≤ (maxLen : Int) ∧
          ∀ g : Nat, snocK (.row (some ⟨g, 0, .none⟩) l.toNat c.toNat e ei.size (repl (cls ei.zero) l.toNat) (0, 0)) (fun h' => K (.slice (some ⟨g, 0, .none⟩) l.toNat c.toNat) h') h
      | .none => False)
    | _ => False)
  | _, _, _ => False

def callE (P : Program) (R : Rd) (h : Hp) (f : FuncId) (args : List Value) (K : Value → Hp → Prop) : Prop :=
  ∃ is : List Nat, pickK is h fun hs rest => ∃ Post : Value → Hp → Prop, Fn P f args hs (RH R rest) Post ∧ ∀ v h', Post v h' → apHK h' (fun h2 => K v h2) rest

def isU8 : TK → Bool
  | .int .u8 => true
  | _ => false

/-- '[]byte("..")' of a constant: the row is marked behind its end. -/
def markE (h : Hp) (A : Option Addr) (n cap : Nat) (K : Value → Hp → Prop) : Prop :=
  ∃ i, nthK (fun y => (match y with
    | .row A1 n1 cap1 e1 sz1 xs fz => A = A1 ∧ (∃ g, A1 = some ⟨g, 0, .none⟩) ∧ sz1 = 1 ∧ fz = (0, 0) ∧ setHK (.row A1 n1 cap1 e1 1 xs (cap1, cap1 + 1)) i h fun h' => K (.slice A n cap) h'
    | _ => False)) h i

/-! ### maps -/
/-- Keys that are compared as integers or as texts. -/
def likeKey : Value → Value → Bool
  | .int k _, .int k' _ => Nat.beq (kindNo k) (kindNo k')
  | .string _, .string _ => true
  | _, _ => false
def sameKey : Value → Value → Bool
  | .int _ a, .int _ b => decide (a = b)
  | .string a, .string b => decide (a.data.toList = b.data.toList)
  | _, _ => false
def keyKind : TK → Value → Bool
  | .int k, .int k' _ => Nat.beq (kindNo k) (kindNo k')
  | .string, .string _ => true
  | _, _ => false
/-- The entry of a key, with its place. -/
def findE (k : Value) : List MapEntry → Nat → Option (Nat × Value)
  | [], _ => .none
  | e :: r, i => (match sameKey k e.key with | true => some (i, e.val) | false => findE k r (i + 1))
def setE (k x : Value) : List MapEntry → Nat → List MapEntry
  | [], _ => []
  | e :: r, 0 => { e with key := k, val := x } :: r
  | e :: r, n + 1 => e :: setE k x r n
def okV (ok : Bool) (v : Value) (b : Bool) : Value := match ok with | true => .tuple ⟨[v, .bool b]⟩ | false => v

/-- What a look-up finds: the value of the key's entry, or the zero value. -/
def foundE (k : Value) (es : List MapEntry) (z v : Value) (b : Bool) : Prop :=
  (∃ j, findE k es 0 = some (j, v) ∧ b = true) ∨ (findE k es 0 = .none ∧ v = z ∧ b = false)
/-- What a store makes of the entries and the clock. -/
def updE (k x : Value) (es : List MapEntry) (c : Nat) (es' : List MapEntry) (c' : Nat) : Prop :=
  (∃ j v, findE k es 0 = some (j, v) ∧ es' = setE k x es j ∧ c' = c) ∨ (findE k es 0 = .none ∧ es' = es ++ [⟨k, x, c⟩] ∧ c' = c + 1)

def mapTab (tab : Tab) (T : TypeId) (K : TI → TI → Prop) : Prop :=
  match lk tab T with
  | some ti => (match ti.kind with
    | .map kt et => (match lk tab kt, lk tab et with
      | some ki, some ei => K ki ei
      | _, _ => False)
    | _ => False)
  | .none => False

def lookE (tab : Tab) (h : Hp) (T : TypeId) (m k : Value) (ok : Bool) (K : Value → Hp → Prop) : Prop :=
  mapTab tab T fun ki ei => chkB (keyKind ki.kind k) (match m with
    | .map .none => K (okV ok ei.zero false) h
    | .map (some r) => ∃ i, nthK (fun y => (match y with
      | .obj r' (.map es _) => r' = r ∧ (∀ e ∈ es.toList, likeKey k e.key = true) ∧ ∀ (v : Value) (b : Bool), foundE k es.toList ei.zero v b → K (okV ok v b) h
      | _ => False)) h i
    | _ => False)

def mupdE (tab : Tab) (h : Hp) (T : TypeId) (m k x : Value) (K : Value → Hp → Prop) : Prop :=
  mapTab tab T fun ki _ => chkB (keyKind ki.kind k) (match m with
    | .map (some r) => ∃ i, nthK (fun y => (match y with
      | .obj r' (.map es c) => r' = r ∧ (∀ e ∈ es.toList, likeKey k e.key = true) ∧
          ∀ (es' : List MapEntry) (c' : Nat), updE k x es.toList c es' c' → setHK (.obj r (.map ⟨es'⟩ c')) i h fun h' => K undef h'
      | _ => False)) h i
    | _ => False)

def rangeE (tab : Tab) (h : Hp) (T : TypeId) (m : Value) (K : Value → Hp → Prop) : Prop :=
  match lk tab T with
  | some ti => (match ti.kind, m with
    | .map _ _, .map .none => ∀ g : Nat, snocK (.obj g (.mapIter .none 0 #[] 0)) (fun h' => K (.pointer (some ⟨g, 0, .none⟩)) h') h
    | .map _ _, .map (some r) => ∃ i, nthK (fun y => (match y with
      | .obj r' (.map _ c) => r' = r ∧ ∀ g : Nat, snocK (.obj g (.mapIter (some r) c #[] c)) (fun h' => K (.pointer (some ⟨g, 0, .none⟩)) h') h
      | _ => False)) h i
    | _, _ => False)
  | .none => False

/-- The next entry of a map that is not written meanwhile. -/
def nextE (h : Hp) (it : Value) (K : Value → Hp → Prop) : Prop :=
  match it with
  | .pointer (some ⟨g, 0, _⟩) => ∃ i, nthK (fun y => (match y with
    | .obj g' (.mapIter .none _ _ _) => g' = g ∧ K (.tuple ⟨[.bool false]⟩) h
    | .obj g' (.mapIter (some m) since seen last) => g' = g ∧ ∃ j, nthK (fun z => (match z with
      | .obj m' (.map es c) => m' = m ∧ (∀ e ∈ es.toList, e.born < since ∧ e.born < last) ∧
          (∀ e ∈ es.toList, e.born ∉ seen.toList → setHK (.obj g (.mapIter (some m) since ⟨seen.toList ++ [e.born]⟩ c)) i h fun h' => K (.tuple ⟨[.bool true, e.key, e.val]⟩) h') ∧
          ((∀ e ∈ es.toList, e.born ∈ seen.toList) → K (.tuple ⟨[.bool false]⟩) h)
      | _ => False)) h j
    | _ => False)) h i
  | _ => False

/-- The entry of the last step. -/
def entryE (h : Hp) (it : Value) (K : Value → Hp → Prop) : Prop :=
  match it with
  | .pointer (some ⟨g, 0, _⟩) => ∃ i, nthK (fun y => (match y with
    | .obj g' (.mapIter (some m) _ seen last) => g' = g ∧ ∃ stamp, seen.toList.getLast? = some stamp ∧ ∃ j, nthK (fun z => (match z with
      | .obj m' (.map es c) => m' = m ∧ c = last ∧ ∃ e, es.toList.find? (fun e => e.born == stamp) = some e ∧ K (.tuple ⟨[e.key, e.val]⟩) h
      | _ => False)) h j
    | _ => False)) h i
  | _ => False

def opE (P : Program) (tab : Tab) (R : Rd) (ρ : List Value) (h : Hp) (K : Value → Hp → Prop) (op : Op) : Prop :=
  match op with
  | .alloc T => (match lk tab T with
    | some ti => ∀ g : Nat, snocK (.blk g T (cls ti.zero)) (fun h' => K (.pointer (some ⟨g, 0, .none⟩)) h') h
    | .none => False)
  | .box T x => evK ρ x fun v => ∀ g : Nat, snocK (.blk g T (cls v)) (fun h' => K (.pointer (some ⟨g, 0, .none⟩)) h') h
  | .store T a x => evK ρ a fun p => evK ρ x fun v => (match p, lk tab T with
    | .pointer (some ad), some ti => (cls v).length = ti.size ∧ allOne (cls v) = true ∧ ∃ i, nthK (fun y => stE y ad (cls v) fun y' => setHK y' i h fun h' => K undef h') h i
    | _, _ => False)
  | .buildSlice T len parts => (match lk tab T with
    | some ti => (match ti.kind with
      | .slice e => (match lk tab e with
        | some ei => chkB (Nat.blt 0 ei.size && Nat.beq (cls ei.zero).length ei.size && Nat.ble (len * ei.size) 16777216) <| fillQ (fun i => some (i * ei.size, ei.size)) ρ (fun cs => allOne cs = true ∧
            ∀ g : Nat, snocK (.row (some ⟨g, 0, .none⟩) len len e ei.size cs (0, 0)) (fun h' => K (.slice (some ⟨g, 0, .none⟩) len len) h') h) parts.toList (repl (cls ei.zero) len)
        | .none => False)
      | _ => False)
    | .none => False)
  | .makeSlice T l c => evK ρ l fun l => evK ρ c fun c => makeE tab h T l c K
  | .convert src dst x => evK ρ x fun v => (match v with
    | .string s => (match lk tab src, lk tab dst with
      | some si, some di => (match si.kind, di.kind with
        | .string, .slice e => (match lk tab e with
          | some ei => chkB (isU8 ei.kind && Nat.beq ei.size 1) <| s.data.toList.length ≤ maxLen ∧ ∀ (g cap : Nat), snocK (.row (some ⟨g, 0, .none⟩) s.data.toList.length cap e 1 (s.data.toList.map fun b => .int .u8 b.toNat) (cap, cap + 1)) (fun h' => K (.slice (some ⟨g, 0, .none⟩) s.data.toList.length cap) h') h
          | .none => False)
        | .string, .string => K (.string s) h
        | _, _ => False)
      | _, _ => False)
    | .slice A n cap => (match lk tab src, lk tab dst with
      | some si, some di => (match si.kind, di.kind with
        | .slice e, .slice _ => (match lk tab e with
          | some ei => chkB (Nat.beq src dst && isU8 ei.kind) (markE h A n cap K)
          | .none => False)
        | _, _ => convQ tab (RH R h) src dst (.slice A n cap) fun v => K v h)
      | _, _ => False)
    | v => convQ tab (RH R h) src dst v fun v => K v h)
  | .call { callee := .value f, args, .. } => evK ρ f fun fv => evsK ρ args.toList fun avs => (match fv with
    | .func (.func f) first cap => apVK cap.toList (fun l => apVK l (fun l => callE P R h f l K) first.toList) avs
    | _ => False)
  | .call { callee := .builtin .append, args, argTypes } => (match args.toList, argTypes.toList with
    | [s, x], [T, U] => evK ρ s fun s => evK ρ x fun x => appE tab R h T U s x K
    | _, _ => False)
  | .call { callee := .builtin .copy, args, argTypes } => (match args.toList, argTypes.toList with
    | [s, x], [T, _] => evK ρ s fun s => evK ρ x fun x => copyE tab R h T s x K
    | _, _ => False)
  | .makeMap T .none => (match lk tab T with
    | some _ => ∀ g : Nat, snocK (.obj g (.map #[] 0)) (fun h' => K (.map (some g)) h') h
    | .none => False)
  | .lookup T x ix ok => evK ρ x fun m => evK ρ ix fun k => lookE tab h T m k ok K
  | .mapUpdate T m k x => evK ρ m fun m => evK ρ k fun k => evK ρ x fun x => mupdE tab h T m k x K
  | .range T x => evK ρ x fun m => rangeE tab h T m K
  | .next it false => evK ρ it fun it => nextE h it K
  | .entry it => evK ρ it fun it => entryE h it K
  | op => opQ tab (RH R h) ρ (fun v => K v h) op

end Go.Proofs.YtoddabjacjkjbaaDoor

namespace Go.Proofs.YtoddabjacjkjbaaDoor
open Go Go.RowKit

theorem newRow_eq {P : Program} (e : TypeId) (c : Array Value) (w : World) : (newRow e c).run P w = .ok ⟨w.heap.size, 0, .none⟩ (w.alloc (.cells c e)) := rfl

theorem holds_blk_new (w : World) (T : TypeId) (cs : List Value) : (HA.blk w.heap.size T cs).holds (w.alloc (.cells cs.toArray T)) := heap_alloc_new w _

theorem holds_row_new (w : World) (n cap : Nat) (e : TypeId) (sz : Nat) (xs rest : List Value) (h1 : xs.length = n * sz) (h2 : n ≤ cap) (h3 : cap ≤ maxLen) (h4 : ∀ x ∈ xs, x.oneCell' = true) (h5 : (xs ++ rest).length = cap * sz) :
    (HA.row (some ⟨w.heap.size, 0, .none⟩) n cap e sz xs (0, 0)).holds (w.alloc (.cells (xs ++ rest).toArray e)) :=
  ⟨h1, h2, h3, h4, rfl, rfl, rest, heap_alloc_new w _, h5, .inl rfl⟩

theorem length_repl (z : List Value) : ∀ n, (repl z n).length = n * z.length
  | 0 => by simp [repl]
  | n + 1 => by simp [repl, length_repl z n, Nat.add_mul, Nat.add_comm]
theorem mem_repl (z : List Value) : ∀ n x, x ∈ repl z n → x ∈ z
  | 0, _, h => by simp [repl] at h
  | n + 1, x, h => by
    simp only [repl, List.mem_append] at h
    rcases h with h | h
    · exact h
    · exact mem_repl z n x h

theorem getElem?_repl (z : List Value) (hz : 0 < z.length) : ∀ n i, (repl z n)[i]? = if i < n * z.length then z[i % z.length]? else .none
  | 0, i => by simp [repl]
  | n + 1, i => by
    simp only [repl]
    by_cases hi : i < z.length
    · rw [List.getElem?_append_left hi, if_pos (by rw [Nat.add_mul]; omega), Nat.mod_eq_of_lt hi]
    · rw [List.getElem?_append_right (by omega), getElem?_repl z hz n]
      have : (i - z.length) % z.length = i % z.length := by
        conv => rhs; rw [show i = (i - z.length) + z.length by omega, Nat.add_mod_right]
      rw [this, Nat.add_mul]
      by_cases h : i - z.length < n * z.length
      · rw [if_pos h, if_pos (by omega)]
      · rw [if_neg h, if_neg (by omega)]

theorem cells_repl (z : Array Value) (hz : 0 < z.size) (n : Nat) : (Array.range (n * z.size)).map (z[· % z.size]!) = (repl z.toList n).toArray := by
  apply Array.ext_getElem?
  intro i
  simp only [List.getElem?_toArray]
  rw [getElem?_repl z.toList (by simpa using hz)]
  simp only [Array.getElem?_map, Array.length_toList]
  have hm := Nat.mod_lt i hz
  by_cases h : i < n * z.size
  · rw [if_pos h]
    simp [h, hm]
  · rw [if_neg h]
    simp [h]

theorem makeE_sound {P : Program} {tab : Tab} (htab : TabOk P tab) {h : Hp} {w : World} (own : Own h w) {T : TypeId} {l c : Value} {K : Value → Hp → Prop} (hE : makeE tab h T l c K) :
    ∃ v h' w', (Instr.makeSlice T l c).run P w = .ok v w' ∧ Tr w h w' h' ∧ K v h' := by
  unfold makeE at hE
  split at hE <;> first | exact hE.elim | skip
  rename_i ti k1 l k2 c hti
  split at hE <;> first | exact hE.elim | skip
  rename_i e hk
  split at hE <;> first | exact hE.elim | skip
  rename_i ei he
  obtain ⟨hb, hE⟩ := chkB_of hE
  simp only [Bool.and_eq_true] at hb
  have h0 : 0 < ei.size := Nat.le_of_ble_eq_true hb.1.1
  have hz := Nat.eq_of_beq_eq_true hb.1.2
  have h1 := allOne_iff hb.2
  obtain ⟨h2, h3, h4, h5, hK⟩ := hE
  have okE := lk_ok htab he
  obtain ⟨i, hi, i1, i2, i3⟩ := okE.info
  rw [← cls_eq] at hz h1
  rw [Array.length_toList] at hz
  have hm : (maxLen : Int) = 9223372036854775807 := by simp [maxLen]
  have hr := run_make (P := P) w T e i ei.zero ((lk_ok htab hti).slice hk) hi i3 k1 k2 l c h2 h3 (by rw [i2]; exact h4) (by omega)
  have hK := hK w.heap.size
  rw [snocK_eq] at hK
  refine ⟨_, _, _, hr, ?_, hK⟩
  refine Tr.new own (Tr.alloc w _ rfl ?_)
  have hc : (madeCells ei.zero.cells (c.toNat * i.size)) = (repl (cls ei.zero) l.toNat ++ repl (cls ei.zero) (c.toNat - l.toNat)).toArray := by
    unfold madeCells
    rw [i1, ← hz, cells_repl _ (by omega), cls_eq]
    congr 1
    have : ∀ a b : Nat, repl (cls ei.zero) (a + b) = repl (cls ei.zero) a ++ repl (cls ei.zero) b := by
      intro a
      induction a with
      | zero => intro b; simp [repl]
      | succ a ih => intro b; rw [show a + 1 + b = (a + b) + 1 by omega]; simp [repl, ih]
    rw [← this]
    congr 1
    omega
  rw [hc]
  rw [cls_eq] at h1
  have hlen : (cls ei.zero).length = ei.size := by rw [← cls_eq, Array.length_toList, hz]
  refine holds_row_new w _ _ e _ _ _ ?_ (by omega) (by omega) (fun x hx => h1 x (mem_repl _ _ _ hx)) ?_
  · rw [length_repl, hlen]
  · rw [List.length_append, length_repl, length_repl, hlen, ← Nat.add_mul]
    congr 1; omega

theorem RSat.drew {R : Rd} {w : World} (h : RSat R w) : RSat R w.drew := h

/-- what is appended, in every world that has the cells -/
def SrcRun (P : Program) (R : Rd) (sz : Nat) (x : Value) (m : Nat) (news : List Value) : Prop :=
  news.length = m * sz ∧ ∀ w, RSat R w → (Builtin.lenOf x).run P w = .ok m w ∧ ∀ c, c ≤ m → (Builtin.firstCells sz c x).run P w = .ok (news.take (c * sz)).toArray w

theorem srcE_sound {P : Program} {R : Rd} {sz : Nat} {x : Value} {K : Nat → List Value → Prop} (h : srcE R sz x K) : ∃ m news, SrcRun P R sz x m news ∧ K m news := by
  unfold srcE at h
  split at h <;> first | exact h.elim | skip
  · rename_i A m c
    obtain ⟨news, hl, hr, hK⟩ := h
    refine ⟨m, news, ⟨hl, fun w hw => ⟨by simp [Builtin.lenOf], fun c hc => ?_⟩⟩, hK⟩
    have hcl : (news.take (c * sz)).length = c * sz := by
      rw [List.length_take, hl]
      have := Nat.mul_le_mul_right sz hc
      omega
    cases A with
    | none =>
      cases news with
      | nil => simp [Builtin.firstCells]
      | cons u l => obtain ⟨a, ha, _⟩ := hr 0 u (by simp); cases ha
    | some a =>
      simp only [Builtin.firstCells]
      rw [← hcl]
      have := loadCells_sound (P := P) (vs := news.take (c * sz)) hw (a := a) (fun j v hv => by
        have hlt := (List.getElem?_eq_some_iff.1 hv).1
        rw [List.getElem?_take_of_lt (by omega)] at hv
        obtain ⟨a', ha, h⟩ := hr j v hv; cases ha; exact h)
      rw [this, hcl]
  · rename_i s
    obtain ⟨hs, hK⟩ := h
    subst hs
    refine ⟨_, _, ⟨by simp, fun w hw => ⟨by simp [Builtin.lenOf], fun c hc => ?_⟩⟩, hK⟩
    simp only [Builtin.firstCells, Sem.run_pure]
    congr 1
    apply Array.ext'
    rw [Lib.extract_eq]
    simp

theorem SrcRun.all {P : Program} {R : Rd} {sz : Nat} {x : Value} {m : Nat} {news : List Value} (h : SrcRun P R sz x m news) {w : World} (hw : RSat R w) : (Builtin.lenOf x).run P w = .ok m w ∧ (Builtin.firstCells sz m x).run P w = .ok news.toArray w := by
  obtain ⟨h1, h2⟩ := h.2 w hw
  refine ⟨h1, ?_⟩
  have := h2 m (Nat.le_refl _)
  rwa [← h.1, List.take_length] at this

theorem setRange_tail : ∀ (news rest xs : List Value), news.length ≤ rest.length → setRange (xs ++ rest) xs.length news = xs ++ news ++ rest.drop news.length
  | [], rest, xs, _ => by simp [setRange]
  | v :: news, [], xs, h => by simp at h
  | v :: news, r :: rest, xs, h => by
    simp only [setRange]
    rw [List.set_append_right _ _ (Nat.le_refl _)]
    simp only [Nat.sub_self, List.set_cons_zero]
    have := setRange_tail news rest (xs ++ [v]) (by simpa using h)
    simp only [List.length_append, List.length_singleton, List.append_assoc, List.singleton_append] at this
    rw [this]
    simp

theorem run_append_gen {P : Program} {R : Rd} {T U ty e : TypeId} {ei : TI} (hT : P.underlying T = some (.slice e)) (hU : (∃ e', P.underlying U = some (.slice e')) ∨ P.underlying U = some .string) (he : TIok P e ei)
    (hz : (cls ei.zero).length = ei.size) {A : Option Addr} {n cap : Nat} {xs : List Value} {x : Value} {m : Nat} {news : List Value} (hx : SrcRun P R ei.size x m news) (h1 : ∀ u ∈ news, u.oneCell' = true)
    (hb : (n + m) * ei.bytes ≤ 140737488355328) (hml : n + m ≤ maxLen) {w : World} (hr : RSat R w) (hw : (HA.row A n cap e ei.size xs (0, 0)).holds w) :
    ∃ A' cap' w', (Builtin.append_ #[T, U] ty #[.slice A n cap, x]).run P w = .ok (.slice A' (n + m) cap') w' ∧ grow (n + m) A' ∧ Tr w [.row A n cap e ei.size xs (0, 0)] w' [.row A' (n + m) cap' e ei.size (xs ++ news) (0, 0)] := by
  have hnl := hx.1
  obtain ⟨s1, s2⟩ := hx.all hr
  obtain ⟨i, hi, i1, i2, i3⟩ := he.info
  obtain ⟨a1, a2, a3, a4, a5⟩ := hw
  have hm : maxLen = 9223372036854775807 := by simp [maxLen]
  by_cases hroom : n + m ≤ cap
  · cases A with
    | none =>
      simp only at a5
      subst a5
      obtain rfl : n = 0 := by omega
      obtain rfl : m = 0 := by omega
      have hx0 : xs = [] := List.eq_nil_of_length_eq_zero (by simpa using a1)
      have hn0 : news = [] := List.eq_nil_of_length_eq_zero (by simpa using hnl)
      subst hx0 hn0
      refine ⟨.none, 0, w, ?_, .inl rfl, Tr.refl ⟨fun y hy => ?_, by simp [idsOf, HA.ids, rowIds]⟩⟩
      · rcases hU with ⟨e', hU⟩ | hU <;> simp [Builtin.append_, run_underlying hT, run_underlying hU, sizeOf, typeInfo, hi, s1, i1, s2]
      · rw [List.mem_singleton.1 hy]; exact ⟨by simp, by omega, a3, by simp, rfl⟩
    | some a =>
      obtain ⟨b1, b2, rest, hh, hl, _⟩ := a5
      obtain ⟨g, o, s⟩ := a
      simp only at b1 b2 hh; subst b1; subst b2
      have hlen : news.length ≤ rest.length := by
        have h6 : (n + m) * ei.size ≤ cap * ei.size := Nat.mul_le_mul_right _ hroom
        rw [Nat.add_mul] at h6
        rw [List.length_append] at hl
        omega
      have hst := run_storeCells (P := P) g (n * ei.size) e (0, 0) news 0 (xs ++ rest) w hh (by rw [List.length_append]; omega) h1 (.inl rfl)
      rw [Nat.add_zero, ← a1, setRange_tail _ _ _ hlen] at hst
      have hadd : (⟨g, 0, .none⟩ : Addr).add xs.length = ⟨g, xs.length, .none⟩ := by
        rw [addA_eq]; cases xs.length <;> simp [addA]
      refine ⟨some ⟨g, 0, .none⟩, cap, _, ?_, .inr ⟨g, rfl⟩, Tr.setBlk_ (g := g) (ob := .cells (xs ++ news ++ rest.drop news.length).toArray e (0, 0)) rfl rfl ?_⟩
      · rcases hU with ⟨e', hU⟩ | hU <;> simp [Builtin.append_, run_underlying hT, run_underlying hU, sizeOf, typeInfo, hi, s1, i1, s2, hroom, ← a1, hadd, hst]
      · refine ⟨?_, hroom, a3, fun y hy => ?_, rfl, rfl, rest.drop news.length, setBlk_get _ _ _ (heap_lt hh), ?_, .inl rfl⟩
        · rw [List.length_append, a1, hnl, Nat.add_mul]
        · rcases List.mem_append.1 hy with hy | hy
          · exact a4 y hy
          · exact h1 y hy
        · simp only [List.length_append, List.length_drop] at hl ⊢; omega
  · have hfit := growslice_fits (bytes := ei.bytes) (show cap < n + m by omega) hb
    have hold : (Builtin.firstCells ei.size n (.slice A n cap)).run P w.drew = .ok xs.toArray w.drew := by
      cases A with
      | none =>
        simp only at a5
        subst a5
        obtain rfl : n = 0 := by omega
        have hx0 : xs = [] := List.eq_nil_of_length_eq_zero (by simpa using a1)
        subst hx0
        simp [Builtin.firstCells]
      | some a =>
        obtain ⟨b1, b2, rest, hh, hl, _⟩ := a5
        obtain ⟨g, o, s⟩ := a
        simp only at b1 b2 hh; subst b1; subst b2
        simp only [Builtin.firstCells]
        rw [← a1]
        refine loadCells_sound (R := fun a v => w.cell? a = some v) (w := w.drew) (fun a v h => h) (fun j v hv => ?_)
        have hadd : (⟨g, 0, .none⟩ : Addr).add j = ⟨g, j, .none⟩ := by
          rw [addA_eq]; cases j <;> simp [addA]
        rw [hadd]
        show w.cell? _ = some v
        rw [cell_of_heap (a := ⟨g, j, .none⟩) hh rfl]
        have hlt := (List.getElem?_eq_some_iff.1 hv).1
        simp only [List.getElem?_toArray]
        rw [List.getElem?_append_left hlt]; exact hv
    have hnew := (hx.all hr.drew).2
    have hge := grownCap_ge w (n + m) cap e
    have hcm := grownCap_le_maxLen w (n + m) cap e hml
    have hzl : (Builtin.zeroCells ei.zero.cells (grownCap w (n + m) cap e - (n + m))).toList.length = (grownCap w (n + m) cap e - (n + m)) * ei.size := by
      rw [Array.length_toList, size_zeroCells, ← hz, ← cls_eq, Array.length_toList]
    refine ⟨some ⟨w.heap.size, 0, .none⟩, grownCap w (n + m) cap e, w.drew.alloc (.cells (xs ++ news ++ (Builtin.zeroCells ei.zero.cells (grownCap w (n + m) cap e - (n + m))).toList).toArray e), ?_, .inr ⟨_, rfl⟩, ?_⟩
    · have hq : (Question.appendCap (n + m) cap e).forced = false := rfl
      have hn1 : ¬ (n + m ≤ cap) := hroom
      have hfit' : ¬ (281474976710656 < Builtin.nextslicecap (n + m) cap * ei.bytes) := by omega
      have hbig : ¬ ((9223372036854775807 : Int) < ((n : Int) + (m : Int))) := by omega
      have hfin : w.drew.alloc (.cells (xs.toArray ++ (news.toArray ++ Builtin.zeroCells ei.zero.cells ((Question.appendCap (n + m) cap e).cut (w.tape w.drawn (Question.appendCap (n + m) cap e)) - (n + m)))) e) =
          w.drew.alloc (.cells (xs ++ (news ++ (Builtin.zeroCells ei.zero.cells ((Question.appendCap (n + m) cap e).cut (w.tape w.drawn (Question.appendCap (n + m) cap e)) - (n + m))).toList)).toArray e) := by
        congr 2
        apply Array.ext'
        simp
      rcases hU with ⟨e', hU⟩ | hU
      · simp [Builtin.append_, run_underlying hT, run_underlying hU, sizeOf, typeInfo, hi, s1, i1, i2, i3, hn1, zeroValue, hq, hold, hnew, hfit', hbig, newRow_eq, grownCap]
        exact hfin
      · simp [Builtin.append_, run_underlying hT, run_underlying hU, sizeOf, typeInfo, hi, s1, i1, i2, i3, hn1, zeroValue, hq, hold, hnew, hfit', hbig, newRow_eq, grownCap]
        exact hfin
    · have hid : ∀ g ∈ idsOf [HA.row A n cap e ei.size xs (0, 0)], g < w.heap.size := by
        intro g hg
        obtain ⟨y, hy, hgy⟩ := mem_idsOf.1 hg
        rw [List.mem_singleton.1 hy] at hgy
        exact HA.holds_lt (x := .row A n cap e ei.size xs (0, 0)) (w := w) ⟨a1, a2, a3, a4, a5⟩ g hgy
      refine ⟨rfl, rfl, rfl, by simp, fun k hk _ => Below.heap_alloc w.drew _ k hk, ⟨fun y hy => ?_, by simp [idsOf, HA.ids, rowIds]⟩, fun g hg => ?_⟩
      · rw [List.mem_singleton.1 hy]
        refine holds_row_new w.drew (n + m) _ e _ (xs ++ news) _ ?_ hge hcm (fun y hy => ?_) ?_
        · rw [List.length_append, a1, hnl, Nat.add_mul]
        · rcases List.mem_append.1 hy with hy | hy
          · exact a4 y hy
          · exact h1 y hy
        · rw [List.length_append, List.length_append, a1, hnl, hzl, ← Nat.add_mul, ← Nat.add_mul]
          congr 1; omega
      · simp [idsOf, HA.ids, rowIds] at hg; subst hg; exact .inr (Nat.le_refl _)

end Go.Proofs.YtoddabjacjkjbaaDoor
