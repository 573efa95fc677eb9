/-
  A small separation logic over the model's worlds: heap assertions, what a call may change, and contracts of functions. Nothing here names a program.
-/
import Derived.WalkKit
namespace Go.Proofs.YtgbdfpfiolbhlaaDoor
open Go Go.RowKit

/-- A piece of memory of the call's own: a block of cells; the row of a slice; an object that is no row of cells (a map, an iterator); or memory that is only read from now on. -/
inductive HA where
  | blk (g : Nat) (t : TypeId) (cs : List Value)
  | row (A : Option Addr) (n cap : Nat) (e : TypeId) (sz : Nat) (xs : List Value) (fz : Nat × Nat)
  | obj (r : Nat) (o : Obj)
  | ro (ids : List Nat) (C : Addr → Value → Prop)

abbrev Hp := List HA

def HA.ids : HA → List Nat
  | .blk g _ _ => [g]
  | .row (some a) _ _ _ _ _ _ => [a.block]
  | .row .none _ _ _ _ _ _ => []
  | .obj r _ => [r]
  | .ro ids _ => ids

def HA.holds (w : World) : HA → Prop
  | .blk g t cs => w.heap[g]? = some (.cells cs.toArray t (0, 0))
  | .row A n cap e sz xs fz => xs.length = n * sz ∧ n ≤ cap ∧ cap ≤ maxLen ∧ (∀ x ∈ xs, x.oneCell' = true) ∧
      match A with
      | .none => cap = 0
      | some a => a.off = 0 ∧ a.spot = .none ∧ ∃ rest, w.heap[a.block]? = some (.cells (xs ++ rest).toArray e fz) ∧ (xs ++ rest).length = cap * sz ∧ (fz = (0, 0) ∨ cap * sz ≤ fz.1)
  | .obj r o => w.heap[r]? = some o ∧ ∀ c t f, o ≠ .cells c t f
  | .ro ids C => (∀ g ∈ ids, g < w.heap.size) ∧ ∀ a v, C a v → a.block ∈ ids ∧ w.cell? a = some v

def HA.cell : HA → Addr → Value → Prop
  | .blk g _ cs, a, v => a.block = g ∧ a.spot = .none ∧ cs[a.off]? = some v
  | .row (some b) _ _ _ _ xs _, a, v => a.block = b.block ∧ a.spot = .none ∧ xs[a.off]? = some v
  | .row .none _ _ _ _ _ _, _, _ => False
  | .obj _ _, _, _ => False
  | .ro _ C, a, v => C a v

def idsOf (h : Hp) : List Nat := h.flatMap HA.ids

theorem idsOf_append (a b : Hp) : idsOf (a ++ b) = idsOf a ++ idsOf b := by simp [idsOf]
theorem mem_idsOf {h : Hp} {g : Nat} : g ∈ idsOf h ↔ ∃ x ∈ h, g ∈ x.ids := by simp [idsOf]

structure Own (h : Hp) (w : World) : Prop where
  all : ∀ x ∈ h, x.holds w
  nd : (idsOf h).Nodup

theorem heap_lt {w : World} {g : Nat} {o : Obj} (h : w.heap[g]? = some o) : g < w.heap.size := by
  rcases Nat.lt_or_ge g w.heap.size with hlt | hge
  · exact hlt
  · rw [Array.getElem?_eq_none hge] at h; cases h

theorem HA.holds_lt {x : HA} {w : World} (h : x.holds w) : ∀ g ∈ x.ids, g < w.heap.size := by
  intro g hg
  cases x with
  | blk g' t cs =>
    simp only [HA.ids, List.mem_singleton] at hg; subst hg
    exact heap_lt h
  | row A n cap e sz xs fz =>
    cases A with
    | none => simp [HA.ids] at hg
    | some a =>
      simp only [HA.ids, List.mem_singleton] at hg; subst hg
      obtain ⟨_, _, _, _, _, _, rest, hh, _⟩ := h
      exact heap_lt hh
  | obj r o =>
    simp only [HA.ids, List.mem_singleton] at hg; subst hg
    exact heap_lt h.1
  | ro ids C => exact h.1 g hg

theorem HA.holds_congr {x : HA} {w w' : World} (hs : w.heap.size ≤ w'.heap.size) (hk : ∀ g ∈ x.ids, w'.heap[g]? = w.heap[g]?) (h : x.holds w) : x.holds w' := by
  cases x with
  | blk g' t cs => exact (hk g' (by simp [HA.ids])).trans h
  | row A n cap e sz xs fz =>
    cases A with
    | none => exact h
    | some a =>
      obtain ⟨h1, h2, h3, h3', h4, h5, rest, hh, hr⟩ := h
      exact ⟨h1, h2, h3, h3', h4, h5, rest, (hk a.block (by simp [HA.ids])).trans hh, hr⟩
  | obj r o => exact ⟨(hk r (by simp [HA.ids])).trans h.1, h.2⟩
  | ro ids C => exact ⟨fun g hg => Nat.lt_of_lt_of_le (h.1 g hg) hs, fun a v hv => ⟨(h.2 a v hv).1, (World.cell?_of_block (hk a.block (h.2 a v hv).1)).trans (h.2 a v hv).2⟩⟩

theorem Own.lt {h : Hp} {w : World} (o : Own h w) {g : Nat} (hg : g ∈ idsOf h) : g < w.heap.size := by
  obtain ⟨x, hx, hgx⟩ := mem_idsOf.1 hg
  exact HA.holds_lt (o.all x hx) g hgx

theorem Own.perm {h h' : Hp} {w : World} (o : Own h w) (p : h.Perm h') : Own h' w :=
  ⟨fun x hx => o.all x (p.mem_iff.2 hx), (List.Perm.nodup_iff (List.Perm.flatMap_right _ p)).1 o.nd⟩

theorem Own.left {a b : Hp} {w : World} (o : Own (a ++ b) w) : Own a w :=
  ⟨fun x hx => o.all x (List.mem_append_left _ hx), by have := o.nd; rw [idsOf_append] at this; exact (List.nodup_append.1 this).1⟩
theorem Own.right {a b : Hp} {w : World} (o : Own (a ++ b) w) : Own b w :=
  ⟨fun x hx => o.all x (List.mem_append_right _ hx), by have := o.nd; rw [idsOf_append] at this; exact (List.nodup_append.1 this).2.1⟩
theorem Own.disj {a b : Hp} {w : World} (o : Own (a ++ b) w) {g : Nat} (ha : g ∈ idsOf a) (hb : g ∈ idsOf b) : False := by
  have := o.nd; rw [idsOf_append] at this
  exact (List.nodup_append.1 this).2.2 g ha g hb rfl
theorem Own.nil (w : World) : Own [] w := ⟨(fun _ h => by cases h), by simp [idsOf]⟩

/-- What a piece of code may have done that began in world 'w' with the memory 'h' to itself. -/
structure Tr (w : World) (h : Hp) (w' : World) (h' : Hp) : Prop where
  os : w'.os = w.os
  tape : w'.tape = w.tape
  output : w'.output = w.output
  size : w.heap.size ≤ w'.heap.size
  keep : ∀ k, k < w.heap.size → k ∉ idsOf h → w'.heap[k]? = w.heap[k]?
  own : Own h' w'
  fresh : ∀ g ∈ idsOf h', g ∈ idsOf h ∨ w.heap.size ≤ g

theorem Tr.refl {w : World} {h : Hp} (o : Own h w) : Tr w h w h := ⟨rfl, rfl, rfl, Nat.le_refl _, fun _ _ _ => rfl, o, fun _ hg => .inl hg⟩

theorem Tr.trans {w w1 w2 : World} {h h1 h2 : Hp} (a : Tr w h w1 h1) (b : Tr w1 h1 w2 h2) : Tr w h w2 h2 := by
  refine ⟨b.os.trans a.os, b.tape.trans a.tape, b.output.trans a.output, Nat.le_trans a.size b.size, fun k hk hn => ?_, b.own, fun g hg => ?_⟩
  · have h1n : k ∉ idsOf h1 := fun hm => by
      rcases a.fresh k hm with h | h
      · exact hn h
      · omega
    exact (b.keep k (Nat.lt_of_lt_of_le hk a.size) h1n).trans (a.keep k hk hn)
  · rcases b.fresh g hg with h | h
    · exact a.fresh g h
    · exact .inr (Nat.le_trans a.size h)

theorem Tr.perm {w w' : World} {h h1 h2 : Hp} (t : Tr w h w' h1) (p : h1.Perm h2) : Tr w h w' h2 :=
  ⟨t.os, t.tape, t.output, t.size, t.keep, t.own.perm p, fun g hg => t.fresh g ((List.Perm.flatMap_right _ p).mem_iff.2 hg)⟩

/-- The frame: a part of the memory is handed to a piece of code; the rest stays as it was. -/
theorem Tr.frame {w0 w1 w2 : World} {h0 h a b a' : Hp} (t : Tr w0 h0 w1 h) (p : h.Perm (a ++ b)) (s : Tr w1 a w2 a') : Tr w0 h0 w2 (b ++ a') := by
  have o := t.own.perm p
  refine (t.perm p).trans ⟨s.os, s.tape, s.output, s.size, fun k hk hn => s.keep k hk (fun hm => hn ?_), ⟨?_, ?_⟩, fun g hg => ?_⟩
  · rw [idsOf_append]; exact List.mem_append_left _ hm
  · intro x hx
    rcases List.mem_append.1 hx with hx | hx
    · have hxw := o.all x (List.mem_append_right _ hx)
      refine HA.holds_congr s.size (fun g hg => s.keep g (HA.holds_lt hxw g hg) (fun hm => ?_)) hxw
      exact o.disj hm (mem_idsOf.2 ⟨x, hx, hg⟩)
    · exact s.own.all x hx
  · rw [idsOf_append]
    refine List.nodup_append.2 ⟨o.right.nd, s.own.nd, fun g hb g' ha e => ?_⟩
    subst e
    rcases s.fresh g ha with h | h
    · exact o.disj h hb
    · have := o.right.lt hb; omega
  · rw [idsOf_append] at hg
    rcases List.mem_append.1 hg with h | h
    · exact .inl (by rw [idsOf_append]; exact List.mem_append_right _ h)
    · rcases s.fresh g h with h | h
      · exact .inl (by rw [idsOf_append]; exact List.mem_append_left _ h)
      · exact .inr h

theorem Tr.below {w w' : World} {h' : Hp} (t : Tr w [] w' h') : Below w.heap.size w w' :=
  ⟨t.os, t.tape, t.output, t.size, fun k hk => t.keep k hk (by simp [idsOf])⟩

/-- Cells that may be read, and that nobody writes. -/
abbrev Rd := Addr → Value → Prop
def RSat (R : Rd) (w : World) : Prop := ∀ a v, R a v → w.cell? a = some v
def Apart (R : Rd) (h : Hp) : Prop := ∀ a v, R a v → a.block ∉ idsOf h
def RH (R : Rd) (h : Hp) : Rd := fun a v => R a v ∨ ∃ x ∈ h, x.cell a v

theorem cell_of_heap {w : World} {a : Addr} {c : Array Value} {t : TypeId} {fz : Nat × Nat} (h : w.heap[a.block]? = some (.cells c t fz)) (hs : a.spot = .none) : w.cell? a = c[a.off]? := by
  unfold World.cell?
  rw [h]
  simp [hs]

theorem HA.cell_sound {x : HA} {w : World} (h : x.holds w) {a : Addr} {v : Value} (hc : x.cell a v) : w.cell? a = some v := by
  cases x with
  | blk g t cs =>
    obtain ⟨h1, h2, h3⟩ := hc
    subst h1
    rw [cell_of_heap h h2]
    simpa using h3
  | row A n cap e sz xs fz =>
    cases A with
    | none => exact hc.elim
    | some b =>
      obtain ⟨h1, h2, h3⟩ := hc
      obtain ⟨_, _, _, _, _, _, rest, hh, _⟩ := h
      rw [← h1] at hh
      rw [cell_of_heap hh h2]
      have hl := (List.getElem?_eq_some_iff.1 h3).1
      simp only [List.getElem?_toArray]
      rw [List.getElem?_append_left hl]
      exact h3
  | obj r o => exact hc.elim
  | ro ids C => exact (h.2 a v hc).2

theorem HA.cell_ids {x : HA} {w : World} (h : x.holds w) {a : Addr} {v : Value} (hc : x.cell a v) : a.block ∈ x.ids := by
  cases x with
  | blk g t cs => simp [HA.ids, hc.1]
  | row A n cap e sz xs fz =>
    cases A with
    | none => exact hc.elim
    | some b => simp [HA.ids, hc.1]
  | obj r o => exact hc.elim
  | ro ids C => exact (h.2 a v hc).1

theorem RSat.rh {R : Rd} {h : Hp} {w : World} (r : RSat R w) (o : Own h w) : RSat (RH R h) w := by
  intro a v hv
  rcases hv with hv | ⟨x, hx, hc⟩
  · exact r a v hv
  · exact HA.cell_sound (o.all x hx) hc

theorem cell_lt {w : World} {a : Addr} {v : Value} (h : w.cell? a = some v) : a.block < w.heap.size := World.block_lt_of_cell? w a h

theorem RSat.tr {R : Rd} {w w' : World} {h h' : Hp} (r : RSat R w) (ap : Apart R h) (t : Tr w h w' h') : RSat R w' := fun a v hv => by
  have hc := r a v hv
  rw [← hc]
  exact World.cell?_of_block (t.keep a.block (cell_lt hc) (ap a v hv))

theorem Apart.tr {R : Rd} {w w' : World} {h h' : Hp} (r : RSat R w) (ap : Apart R h) (t : Tr w h w' h') : Apart R h' := fun a v hv hm => by
  rcases t.fresh _ hm with h | h
  · exact ap a v hv h
  · have := cell_lt (r a v hv); omega

theorem Apart.rh {R : Rd} {a b : Hp} {w : World} (ap : Apart R (a ++ b)) (o : Own (a ++ b) w) : Apart (RH R b) a := by
  intro ad v hv hm
  rcases hv with hv | ⟨x, hx, hc⟩
  · exact ap ad v hv (by rw [idsOf_append]; exact List.mem_append_left _ hm)
  · exact o.disj hm (mem_idsOf.2 ⟨x, hx, HA.cell_ids (o.all x (List.mem_append_right _ hx)) hc⟩)

theorem Apart.perm {R : Rd} {h h' : Hp} (ap : Apart R h) (p : h.Perm h') : Apart R h' := fun a v hv hm => ap a v hv ((List.Perm.flatMap_right _ p).mem_iff.2 hm)
theorem Apart.nil (R : Rd) : Apart R [] := fun _ _ _ h => by simp [idsOf] at h

/-- A CONTRACT: called with the memory 'h' to itself and the cells 'R' to read, the function returns a value and a memory that 'Post' admits, and changes nothing else. -/
def FnPost (w : World) (h : Hp) (Post : Value → Hp → Prop) : Ending → World → Prop :=
  fun e w' => ∃ v h', e = .returned v ∧ Post v h' ∧ Tr w h w' h'

def Callable (P : Program) (f : FuncId) : Prop := ∃ fn, P.funcs[f]? = some fn ∧ fn.body.isNone = false ∧ (fn.name == "runtime.NumGoroutine") = false

theorem run_callFunc_of {P : Program} {f : FuncId} (h : Callable P f) (args : Array Value) (w : World) : (callFunc f args).run P w = .ok (.enter f args) w := by
  obtain ⟨fn, hf, hb, hn⟩ := h
  unfold callFunc
  simp only [Sem.run_bind, run_program, Result.andThen_ok, hf, hn, hb, Bool.false_eq_true, if_false, Sem.run_pure]

def Fn (P : Program) (f : FuncId) (args : List Value) (h : Hp) (R : Rd) (Post : Value → Hp → Prop) : Prop :=
  Callable P f ∧ ∀ w, Own h w → RSat R w → Apart R h → Calls P f args.toArray w (FnPost w h Post)

/-- The same of a call that a 'defer' makes, in a frame that returns. -/
def FnD (P : Program) (f : FuncId) (args : List Value) (h : Hp) (R : Rd) (Post : Hp → Prop) : Prop :=
  Callable P f ∧ ∀ w, Own h w → RSat R w → Apart R h → CallsD P f args.toArray .returning w (fun e u' w' => u' = .returning ∧ FnPost w h (fun _ h' => Post h') e w')

theorem Fn.mono {P : Program} {f : FuncId} {args : List Value} {h : Hp} {R R' : Rd} {Post Post' : Value → Hp → Prop} (c : Fn P f args h R Post)
    (hR : ∀ a v, R a v → R' a v) (hp : ∀ v h', Post v h' → Post' v h') : Fn P f args h R' Post' := ⟨c.1, fun w o r a =>
  (c.2 w o (fun ad v hv => r ad v (hR ad v hv)) (fun ad v hv => a ad v (hR ad v hv))).mono fun _ _ ⟨v, h', he, hq, t⟩ => ⟨v, h', he, hp v h' hq, t⟩⟩

end Go.Proofs.YtgbdfpfiolbhlaaDoor
