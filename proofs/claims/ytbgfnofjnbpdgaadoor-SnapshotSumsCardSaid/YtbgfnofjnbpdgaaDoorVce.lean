/-
  Operations that make memory or write it: what a store does.
-/
import Derived.Test.YtbgfnofjnbpdgaaDoorVcd
namespace Go.Proofs.YtbgfnofjnbpdgaaDoor
open Go Go.RowKit

/-- Block g is replaced. -/
def setBlk (w : World) (g : Nat) (o : Obj) : World := { w with heap := w.heap.setIfInBounds g o }

theorem setBlk_self (w : World) (g : Nat) (o : Obj) (h : w.heap[g]? = some o) : setBlk w g o = w := by
  unfold setBlk
  have : w.heap.setIfInBounds g o = w.heap := by
    apply Array.ext_getElem?
    intro i
    rw [Array.getElem?_setIfInBounds]
    split
    · rename_i he; subst he
      rw [h]
      split
      · rfl
      · rename_i hn; exact absurd (heap_lt h) hn
    · rfl
  rw [this]

theorem setBlk_setBlk (w : World) (g : Nat) (o o' : Obj) : setBlk (setBlk w g o) g o' = setBlk w g o' := by
  unfold setBlk
  simp

theorem setBlk_get (w : World) (g : Nat) (o : Obj) (h : g < w.heap.size) : (setBlk w g o).heap[g]? = some o := by
  simp [setBlk, h]
theorem setBlk_other (w : World) (g k : Nat) (o : Obj) (h : k ≠ g) : (setBlk w g o).heap[k]? = w.heap[k]? := by
  simp [setBlk, Ne.symm h]

theorem setCell_setBlk (w : World) (g o : Nat) (c : Array Value) (t : TypeId) (fz : Nat × Nat) (h : w.heap[g]? = some (.cells c t fz)) (v : Value) :
    w.setCell ⟨g, o, .none⟩ v = setBlk w g (.cells (c.setIfInBounds o v) t fz) := by
  unfold World.setCell setBlk
  congr 1
  apply Array.ext_getElem?
  intro i
  rw [Array.getElem?_modify, Array.getElem?_setIfInBounds]
  split
  · rename_i he; subst he
    obtain ⟨hlt, he⟩ := Array.getElem?_eq_some_iff.1 h
    simp [hlt, he]
  · rfl

theorem run_storeCells {P : Program} (g o : Nat) (t : TypeId) (fz : Nat × Nat) : ∀ (vs : List Value) (i : Nat) (c : List Value) (w : World), w.heap[g]? = some (.cells c.toArray t fz) → o + i + vs.length ≤ c.length →
    (∀ v ∈ vs, v.oneCell' = true) → (fz = (0, 0) ∨ c.length ≤ fz.1 ∨ o + i + vs.length ≤ fz.1) → (storeCells ⟨g, o, .none⟩ vs i).run P w = .ok () (setBlk w g (.cells (setRange c (o + i) vs).toArray t fz))
  | [], i, c, w, h, _, _, _ => by
    simp only [storeCells, Sem.run_pure, setRange]
    rw [setBlk_self _ _ _ h]
  | v :: vs, i, c, w, h, hl, h1, hf => by
    have hadd : (⟨g, o, .none⟩ : Addr).add i = ⟨g, o + i, .none⟩ := by
      rw [addA_eq]; cases i <;> rfl
    have hc : w.cell? ⟨g, o + i, .none⟩ = some (c[o + i]'(by simp at hl; omega)) := by
      rw [cell_of_heap (a := ⟨g, o + i, .none⟩) h rfl]
      simp
    have hz : w.frozen? ⟨g, o + i, .none⟩ = false := by
      unfold World.frozen?
      rw [h]
      obtain ⟨lo, hi⟩ := fz
      simp only [List.length_cons] at hl hf
      rcases hf with hf | hf | hf
      · simp at hf; simp [hf]
      · simp at hf ⊢; omega
      · simp at hf ⊢; omega
    have hv := h1 v (by simp)
    have ih := run_storeCells (P := P) g o t fz vs (i + 1) (c.set (o + i) v) (setBlk w g (.cells (c.set (o + i) v).toArray t fz)) (setBlk_get _ _ _ (heap_lt h)) (by simp at hl ⊢; omega) (fun u hu => h1 u (by simp [hu])) (by
      rcases hf with hf | hf | hf
      · exact .inl hf
      · exact .inr (.inl (by simpa using hf))
      · exact .inr (.inr (by simp at hf ⊢; omega)))
    rw [setBlk_setBlk] at ih
    have hrun : (store ⟨g, o + i, .none⟩ v).run P w = .ok () (setBlk w g (.cells (c.set (o + i) v).toArray t fz)) := by
      have hs := setCell_setBlk w g (o + i) c.toArray t fz h v
      simp only [List.setIfInBounds_toArray] at hs
      rw [← hs]
      cases v <;> first | (simp [Value.oneCell'] at hv; done) | simp [store, Sem.run, hc, hz]
    simp only [storeCells, Sem.run_bind, hadd, hrun, Result.andThen_ok]
    rw [ih]
    rfl

/-! ### one step of memory, seen from the whole -/
theorem set_perm {α : Type} : ∀ (l : List α) (i : Nat) (x y : α), l[i]? = some x → l.Perm ([x] ++ l.eraseIdx i) ∧ (l.set i y).Perm (l.eraseIdx i ++ [y])
  | [], _, _, _, h => by simp at h
  | a :: l, 0, x, y, h => by
    simp at h; subst h
    exact ⟨by simp, by simpa using (List.perm_append_singleton y l).symm⟩
  | a :: l, i + 1, x, y, h => by
    obtain ⟨h1, h2⟩ := set_perm l i x y (by simpa using h)
    refine ⟨?_, by simpa using h2⟩
    simp only [List.eraseIdx_cons_succ, List.singleton_append] at h1 ⊢
    exact (h1.cons a).trans (List.Perm.swap x a _)

theorem Tr.at_ {w w' : World} {h : Hp} {i : Nat} {x y : HA} (o : Own h w) (hi : h[i]? = some x) (t : Tr w [x] w' [y]) : Tr w h w' (h.set i y) := by
  obtain ⟨h1, h2⟩ := set_perm h i x y hi
  exact ((Tr.refl o).frame h1 t).perm h2.symm

theorem Tr.new {w w' : World} {h : Hp} {x : HA} (o : Own h w) (t : Tr w [] w' [x]) : Tr w h w' (h ++ [x]) :=
  (Tr.refl o).frame (a := []) (List.Perm.refl h) t

theorem Tr.drew {w : World} {h : Hp} (o : Own h w) : Tr w h w.drew h := ⟨rfl, rfl, rfl, Nat.le_refl _, fun _ _ _ => rfl, ⟨fun x hx => HA.holds_congr (Nat.le_refl _) (fun _ _ => rfl) (o.all x hx), o.nd⟩, fun _ hg => .inl hg⟩

theorem Tr.alloc (w : World) (ob : Obj) {x : HA} (hx : x.ids = [w.heap.size]) (hh : x.holds (w.alloc ob)) : Tr w [] (w.alloc ob) [x] := by
  refine ⟨rfl, rfl, rfl, by simp, fun k hk _ => Below.heap_alloc w ob k hk, ⟨fun y hy => ?_, ?_⟩, fun g hg => ?_⟩
  · rw [List.mem_singleton.1 hy]; exact hh
  · simp [idsOf, hx]
  · simp [idsOf, hx] at hg; subst hg; exact .inr (Nat.le_refl _)

theorem Tr.setBlk_ {w : World} {g : Nat} {ob : Obj} {x y : HA} (hx : x.ids = [g]) (hy : y.ids = [g]) (hh : y.holds (setBlk w g ob)) : Tr w [x] (setBlk w g ob) [y] := by
  refine ⟨rfl, rfl, rfl, by simp [setBlk], fun k hk hn => setBlk_other w g k ob (fun e => hn (by simp [idsOf, hx, e])), ⟨fun z hz => ?_, ?_⟩, fun k hk => ?_⟩
  · rw [List.mem_singleton.1 hz]; exact hh
  · simp [idsOf, hy]
  · simp [idsOf, hx, hy] at hk ⊢; exact .inl hk

/-- A store into a known piece of memory. -/
def stE (x : HA) (ad : Addr) (vs : List Value) (K : HA → Prop) : Prop :=
  match x with
  | .blk g t cs => ad.block = g ∧ ad.spot = .none ∧ ad.off + vs.length ≤ cs.length ∧ K (.blk g t (setRange cs ad.off vs))
  | .row A n c e sz xs fz => A = some ⟨ad.block, 0, .none⟩ ∧ ad.spot = .none ∧ ad.off + vs.length ≤ xs.length ∧ K (.row A n c e sz (setRange xs ad.off vs) fz)
  | .obj _ _ => False
  | .ro _ _ => False
  | .rows _ => False

theorem setRange_append : ∀ (vs xs rest : List Value) (o : Nat), o + vs.length ≤ xs.length → setRange (xs ++ rest) o vs = setRange xs o vs ++ rest
  | [], _, _, _, _ => rfl
  | v :: vs, xs, rest, o, h => by
    simp only [List.length_cons] at h
    simp only [setRange]
    rw [List.set_append_left _ _ (by omega), setRange_append vs _ rest (o + 1) (by simp; omega)]

theorem mem_setRange : ∀ (vs cs : List Value) (o : Nat) (x : Value), x ∈ setRange cs o vs → x ∈ cs ∨ x ∈ vs
  | [], _, _, _, h => .inl h
  | v :: vs, cs, o, x, h => by
    rcases mem_setRange vs _ _ x h with h | h
    · rcases List.mem_or_eq_of_mem_set h with h | h
      · exact .inl h
      · exact .inr (by simp [h])
    · exact .inr (by simp [h])

theorem stE_sound {P : Program} {x : HA} {ad : Addr} {vs : List Value} {K : HA → Prop} (h1 : ∀ v ∈ vs, v.oneCell' = true) (h : stE x ad vs K) : ∃ y, K y ∧ ∀ w, x.holds w → ∃ w', (storeCells ad vs).run P w = .ok () w' ∧ Tr w [x] w' [y] := by
  cases x with
  | blk g t cs =>
    obtain ⟨e1, e2, h3, hK⟩ := h
    obtain ⟨b, o, s⟩ := ad
    simp only at e1 e2 h3; subst e1; subst e2
    refine ⟨_, hK, fun w hw => ?_⟩
    have hr := run_storeCells (P := P) b o t (0, 0) vs 0 cs w hw (by simpa using h3) h1 (.inl rfl)
    refine ⟨_, hr, Tr.setBlk_ rfl rfl ?_⟩
    exact setBlk_get _ _ _ (heap_lt hw)
  | row A n c e sz xs fz =>
    obtain ⟨e1, e2, h3, hK⟩ := h
    obtain ⟨b, o, s⟩ := ad
    simp only at e1 e2 h3; subst e1; subst e2
    refine ⟨_, hK, fun w hw => ?_⟩
    obtain ⟨a1, a2, a3, a4, a5, a6, rest, hh, hl, hf⟩ := hw
    simp only [List.length_append] at hl
    have hr := run_storeCells (P := P) b o e fz vs 0 (xs ++ rest) w hh (by simp; omega) h1 (by
      rcases hf with hf | hf
      · exact .inl hf
      · exact .inr (.inl (by simp; omega)))
    refine ⟨_, hr, Tr.setBlk_ rfl rfl ?_⟩
    refine ⟨by rw [length_setRange]; exact a1, a2, a3, fun y hy => ?_, rfl, rfl, rest, ?_, ?_, hf⟩
    · rcases mem_setRange _ _ _ _ hy with hy | hy
      · exact a4 y hy
      · exact h1 y hy
    · rw [setBlk_get _ _ _ (heap_lt hh), Nat.add_zero, setRange_append _ _ _ _ h3]
    · simp only [List.length_append, length_setRange]; omega
  | obj r o => exact h.elim
  | ro ids C => exact h.elim
  | rows l => exact h.elim

/-! ### objects that are no rows of cells -/
theorem run_getObj {P : Program} {w : World} {r : Nat} {o : Obj} (h : w.heap[r]? = some o) (hc : ∀ c t f, o ≠ .cells c t f) : (getObj r).run P w = .ok o w := by
  unfold getObj
  cases o <;> first | exact absurd rfl (hc _ _ _) | simp only [Sem.run, h]
theorem run_setObj {P : Program} {w : World} {r : Nat} {o o' : Obj} (h : w.heap[r]? = some o) (hc : ∀ c t f, o ≠ .cells c t f) : (setObj r o').run P w = .ok () (setBlk w r o') := by
  unfold setObj
  cases o <;> first | exact absurd rfl (hc _ _ _) | (simp only [Sem.run, h]; rfl)
theorem Tr.setObj_ {w : World} {r : Nat} {o o' : Obj} (h : w.heap[r]? = some o) (hc : ∀ c t f, o' ≠ .cells c t f) : Tr w [.obj r o] (setBlk w r o') [.obj r o'] :=
  Tr.setBlk_ rfl rfl ⟨setBlk_get _ _ _ (heap_lt h), hc⟩
theorem Tr.newObj {w : World} (o : Obj) (hc : ∀ c t f, o ≠ .cells c t f) : Tr w [] (w.alloc o) [.obj w.heap.size o] :=
  Tr.alloc w _ rfl ⟨heap_alloc_new w _, hc⟩

end Go.Proofs.YtbgfnofjnbpdgaaDoor
