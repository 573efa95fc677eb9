/-
  What a law's arguments hold: shapes, read out of the statement's own reading.
-/
import Derived.Test.YtbgfnofjnbpdgaaDoorVck
import Derived.WalkKit
import Derived.ProofKit
import Derived.OpenShut
import Derived.ShutString
import Derived.ChangeOld
import Derived.ChangeArms
import Derived.Below
namespace Go.Proofs.YtbgfnofjnbpdgaaDoor
open Go Go.RowKit Go.WideShapes

/-- Shapes of types: integers, truth values, texts, slices, pointers, structs (a chain of fields). -/
inductive Shp where
  | int (k : IntKind)
  | bool
  | str
  | sl (sz : Nat) (e : Shp)
  | ptr (sz : Nat) (e : Shp)
  | f0 (n : Nat)
  | fc (off sz : Nat) (e rest : Shp)

def Shp.fits (P : Program) : Shp → TypeId → Nat → Bool
  | .int k, t, _ => match P.underlying t with | some (.int k') => decide (k = k') | _ => false
  | .bool, t, _ => match P.underlying t with | some .bool => true | _ => false
  | .str, t, _ => match P.underlying t with | some .string => true | _ => false
  | .sl sz e, t, _ => match P.underlying t with | some (.slice u) => P.cellsOf u == sz && e.fits P u 0 | _ => false
  | .ptr sz e, t, _ => match P.underlying t with | some (.pointer u) => P.cellsOf u == sz && e.fits P u 0 | _ => false
  | .f0 n, t, _ => match P.underlying t with | some (.struct _) => P.cellsOf t == n | _ => false
  | .fc off sz e rest, t, i => match P.underlying t with
    | some (.struct fs) => (match fs[i]? with | some f => f.offset == off && P.cellsOf f.type == sz && e.fits P f.type 0 | _ => false) && rest.fits P t (i + 1)
    | _ => false

def Seen (R : Rd) : Shp → List Value → Prop
  | .int k, cs => ∃ n, cs = [.int k n] ∧ (Lit.int k n).wf = true
  | .bool, cs => ∃ x, cs = [.bool x]
  | .str, cs => ∃ x, cs = [.string x] ∧ x.size ≤ maxLen
  | .sl sz e, cs => cs = [.slice none 0 0] ∨ ∃ a n cap, cs = [.slice (some a) n cap] ∧ n ≤ cap ∧ cap ≤ maxLen ∧
      ∀ i, i < n → ∃ xs, xs.length = sz ∧ (∀ j u, xs[j]? = some u → R (a.add (i * sz + j)) u) ∧ Seen R e xs
  | .ptr sz e, cs => cs = [.pointer none] ∨ ∃ a xs, cs = [.pointer (some a)] ∧ xs.length = sz ∧ (∀ j u, xs[j]? = some u → R (a.add j) u) ∧ Seen R e xs
  | .f0 n, cs => cs.length = n
  | .fc off sz e rest, cs => Seen R e ((cs.drop off).take sz) ∧ Seen R rest cs

/-- A whole value of a shape. -/
def SeenV (R : Rd) (s : Shp) (v : Value) : Prop := Seen R s v.cells.toList ∧ match s with
  | .f0 _ | .fc .. => ∃ cs, v = .agg cs
  | _ => ∀ cs, v ≠ .agg cs

section
variable {H : Type} {enc : TypeId × Value → H} {P : Program} {w : World} {spare : Nat → Bool} {held : Bool}

theorem add_add (a : Addr) (i j : Nat) : (a.add i).add j = a.add (i + j) := by
  unfold Addr.add
  by_cases h1 : i = 0 <;> by_cases h2 : j = 0 <;> simp [h1, h2, Nat.add_assoc]

theorem seen_of {s : Shp} : ∀ {t : TypeId} {i : Nat} {fuel : Nat} {cs : List Value} {x : DataW H × List MemPlace}, s.fits P t i = true → DataW.trod enc P w 0 spare held fuel t cs = some x → Seen (fun a v => w.cell? a = some v) s cs := by
  induction s with
  | int k =>
    intro t i fuel cs x hf h
    simp only [Shp.fits] at hf
    split at hf
    · rename_i k' ht
      obtain rfl := of_decide_eq_true hf
      obtain ⟨n, rfl, _, hw⟩ := DataW.trod_int ht h
      exact ⟨n, rfl, hw⟩
    · cases hf
  | bool =>
    intro t i fuel cs x hf h
    simp only [Shp.fits] at hf
    split at hf
    · rename_i ht
      obtain ⟨n, rfl, _⟩ := DataW.trod_bool ht h
      exact ⟨n, rfl⟩
    · cases hf
  | str =>
    intro t i fuel cs x hf h
    simp only [Shp.fits] at hf
    split at hf
    · rename_i ht
      obtain ⟨n, rfl, _, hw⟩ := DataW.trod_string ht h
      exact ⟨n, rfl, hw⟩
    · cases hf
  | sl sz e ih =>
    intro t i fuel cs x hf h
    simp only [Shp.fits] at hf
    split at hf
    · rename_i u ht
      simp only [Bool.and_eq_true, beq_iff_eq] at hf
      obtain ⟨rfl, hf⟩ := hf
      rcases DataW.trod_slice ht h with ⟨rfl, _⟩ | ⟨a, len, cap, elems, rest, n, _, rfl, _, _, hl, hm, hlen, hel, _⟩
      · exact .inl rfl
      · refine .inr ⟨a, len, cap, rfl, hl, hm, fun i hi => ?_⟩
        have hE := hel i hi
        have : i < elems.length := by omega
        rw [List.getElem?_eq_getElem this, Option.bind_eq_some_iff] at hE
        obtain ⟨xs, hxs, hy⟩ := hE
        obtain ⟨_, hlx, hc⟩ := World.cells?_some hxs
        refine ⟨xs, hlx, fun j u hu => ?_, ih hf hy⟩
        have := (List.getElem?_eq_some_iff.1 hu).1
        show w.cell? _ = some _
        rw [← hu, ← hc j (by omega), add_add]
    · cases hf
  | ptr sz e ih =>
    intro t i fuel cs x hf h
    simp only [Shp.fits] at hf
    split at hf
    · rename_i u ht
      simp only [Bool.and_eq_true, beq_iff_eq] at hf
      obtain ⟨rfl, hf⟩ := hf
      rcases DataW.trod_pointer ht h with ⟨rfl, _⟩ | ⟨a, xs, y, n, _, rfl, _, hxs, hy⟩
      · exact .inl rfl
      · obtain ⟨_, hlx, hc⟩ := World.cells?_some hxs
        refine .inr ⟨a, xs, rfl, hlx, fun j u hu => ?_, ih hf hy⟩
        have := (List.getElem?_eq_some_iff.1 hu).1
        show w.cell? _ = some _
        rw [← hu, ← hc j (by omega)]
    · cases hf
  | f0 n =>
    intro t i fuel cs x hf h
    simp only [Shp.fits] at hf
    split at hf
    · rename_i fs ht
      obtain rfl := of_decide_eq_true hf
      obtain ⟨xs, n, _, _, hl, _⟩ := DataW.trod_struct ht h
      exact hl
    · cases hf
  | fc off sz e rest ih ih2 =>
    intro t i fuel cs x hf h
    have hf0 := hf
    simp only [Shp.fits] at hf
    split at hf
    · rename_i fs ht
      simp only [Bool.and_eq_true] at hf
      obtain ⟨h1, h2⟩ := hf
      split at h1
      · rename_i f hfi
        simp only [Bool.and_eq_true, beq_iff_eq] at h1
        obtain ⟨⟨rfl, rfl⟩, h1⟩ := h1
        obtain ⟨xs, n, _, _, hl, hxl, hx⟩ := DataW.trod_struct ht h
        have hi := hx i f hfi
        have : i < xs.length := by rw [hxl]; exact (Array.getElem?_eq_some_iff.1 hfi).1
        rw [List.getElem?_eq_getElem this] at hi
        exact ⟨ih h1 hi, ih2 h2 h⟩
      · cases h1
    · cases hf

theorem seenV_of {s : Shp} {t : TypeId} {v : Value} {d : DataW H} {ps : List MemPlace} {r : Reach} {b0 : Nat} (hf : s.fits P t 0 = true) (hv : Value.okWide P w r b0 t v) (h : DataW.Trod enc P w 0 spare held t v d ps) : SeenV (fun a v => w.cell? a = some v) s v := by
  obtain ⟨fuel, h⟩ := h
  refine ⟨seen_of hf h, ?_⟩
  cases s <;> simp only [Shp.fits] at hf ⊢ <;> split at hf <;> first | (cases hf; done) | skip
  all_goals rename_i ht
  · obtain ⟨n, rfl⟩ := okWide_int ht hv; intro cs hc; cases hc
  · obtain ⟨n, rfl⟩ := okWide_bool ht hv; intro cs hc; cases hc
  · obtain ⟨n, rfl⟩ := okWide_string ht hv; intro cs hc; cases hc
  · obtain ⟨a, n, c, rfl⟩ := okWide_slice ht hv; intro cs hc; cases hc
  · obtain ⟨a, rfl⟩ := okWide_pointer ht hv; intro cs hc; cases hc
  · obtain ⟨cs, rfl, _⟩ := okWide_struct ht hv; exact ⟨cs, rfl⟩
  · obtain ⟨cs, rfl, _⟩ := okWide_struct ht hv; exact ⟨cs, rfl⟩
end

theorem cells_one {v : Value} (h : ∀ cs, v ≠ .agg cs) : v.cells.toList = [v] := by
  cases v <;> first | rfl | exact absurd rfl (h _)

theorem SeenV.u64 {R : Rd} {v : Value} (h : SeenV R (.int .u64) v) : ∃ n : Nat, v = .int .u64 n ∧ n ≤ 18446744073709551615 := by
  obtain ⟨⟨n, hn, hw⟩, hv⟩ := h
  rw [cells_one hv] at hn
  simp only [List.cons.injEq, and_true] at hn
  subst hn
  have : 0 ≤ n ∧ n ≤ 18446744073709551615 := by simpa [Lit.wf, IntKind.has, IntKind.min, IntKind.max, IntKind.bits, IntKind.signed] using hw
  exact ⟨n.toNat, by congr 1; omega, by omega⟩

theorem SeenV.i64 {R : Rd} {v : Value} (h : SeenV R (.int .i64) v) : ∃ n : Int, v = .int .i64 n ∧ -9223372036854775808 ≤ n ∧ n ≤ 9223372036854775807 := by
  obtain ⟨⟨n, hn, hw⟩, hv⟩ := h
  rw [cells_one hv] at hn
  simp only [List.cons.injEq, and_true] at hn
  subst hn
  exact ⟨n, rfl, by simpa [Lit.wf, IntKind.has, IntKind.min, IntKind.max, IntKind.bits, IntKind.signed] using hw⟩

theorem SeenV.bool {R : Rd} {v : Value} (h : SeenV R .bool v) : ∃ x, v = .bool x := by
  obtain ⟨⟨n, hn⟩, hv⟩ := h
  rw [cells_one hv] at hn
  simp only [List.cons.injEq, and_true] at hn
  exact ⟨n, hn⟩

theorem SeenV.string {R : Rd} {v : Value} (h : SeenV R .str v) : ∃ x, v = .string x ∧ x.size ≤ maxLen := by
  obtain ⟨⟨n, hn, hw⟩, hv⟩ := h
  rw [cells_one hv] at hn
  simp only [List.cons.injEq, and_true] at hn
  exact ⟨n, hn, hw⟩

/-- The elements of a list of groups of cells, by their place. -/
theorem flat_get {α : Type} {c : α → List Value} {sz : Nat} : ∀ {l : List α}, (∀ x ∈ l, (c x).length = sz) → ∀ {j : Nat} {u : Value}, (l.flatMap c)[j]? = some u → ∃ i x k, l[i]? = some x ∧ (c x)[k]? = some u ∧ j = i * sz + k
  | [], _, j, u, h => by simp at h
  | x :: l, hl, j, u, h => by
    have hx := hl x (by simp)
    rw [List.flatMap_cons] at h
    by_cases hj : j < sz
    · rw [List.getElem?_append_left (by omega)] at h
      exact ⟨0, x, j, rfl, h, by omega⟩
    · rw [List.getElem?_append_right (by omega)] at h
      obtain ⟨i, y, k, h1, h2, h3⟩ := flat_get (fun y hy => hl y (by simp [hy])) h
      exact ⟨i + 1, y, k, h1, h2, by rw [Nat.add_mul]; omega⟩

theorem flat_len {α : Type} {c : α → List Value} {sz : Nat} : ∀ {l : List α}, (∀ x ∈ l, (c x).length = sz) → (l.flatMap c).length = l.length * sz
  | [], _ => by simp
  | x :: l, hl => by
    rw [List.flatMap_cons, List.length_append, hl x (by simp), flat_len (fun y hy => hl y (by simp [hy])), List.length_cons, Nat.add_mul]; omega

/-- A choice of one for each place. -/
theorem pick_list {α : Type} {p : Nat → α → Prop} : ∀ (n : Nat), (∀ i, i < n → ∃ x, p i x) → ∃ l : List α, l.length = n ∧ ∀ i x, l[i]? = some x → p i x
  | 0, _ => ⟨[], rfl, fun i x h => by simp at h⟩
  | n + 1, h => by
    obtain ⟨l, hl, hp⟩ := pick_list n fun i hi => h i (by omega)
    obtain ⟨x, hx⟩ := h n (by omega)
    refine ⟨l ++ [x], by simp [hl], fun i y hy => ?_⟩
    by_cases hi : i < l.length
    · rw [List.getElem?_append_left hi] at hy; exact hp i y hy
    · rw [List.getElem?_append_right (by omega)] at hy
      have : i - l.length = 0 := by have := (List.getElem?_eq_some_iff.1 hy).1; simp at this; omega
      rw [this] at hy
      simp at hy
      subst hy
      have : i = n := by omega
      rw [this]; exact hx

/-- A slice whose elements are read as things of a kind. -/
theorem SeenV.slice {R : Rd} {sz : Nat} {e : Shp} {v : Value} (h : SeenV R (.sl sz e) v) {α : Type} (c : α → List Value) (ok : α → Prop) (hsz : ∀ x, ok x → (c x).length = sz) (hE : ∀ xs, xs.length = sz → Seen R e xs → ∃ x, ok x ∧ xs = c x) :
    ∃ l : List α, (∀ x ∈ l, ok x) ∧ l.length ≤ maxLen ∧ SlR R sz v l.length (l.flatMap c) := by
  obtain ⟨h, hv⟩ := h
  rw [cells_one hv] at h
  rcases h with h | ⟨a, n, cap, h, hnc, hcm, hel⟩
  · simp only [List.cons.injEq, and_true] at h
    subst h
    exact ⟨[], by simp, by simp, by simp, none, 0, rfl, fun j u hu => by simp at hu⟩
  · simp only [List.cons.injEq, and_true] at h
    subst h
    obtain ⟨l, hl, hp⟩ := pick_list (p := fun i x => ok x ∧ ∀ j u, (c x)[j]? = some u → R (a.add (i * sz + j)) u) n (fun i hi => by
      obtain ⟨xs, hxl, hR, hs⟩ := hel i hi
      obtain ⟨x, hx, rfl⟩ := hE xs hxl hs
      exact ⟨x, hx, hR⟩)
    have hok : ∀ x ∈ l, ok x := fun x hx => by
      obtain ⟨i, hi⟩ := List.getElem?_of_mem hx
      exact (hp i x hi).1
    refine ⟨l, hok, by omega, flat_len (fun x hx => hsz x (hok x hx)), some a, cap, by rw [hl], fun j u hu => ⟨a, rfl, ?_⟩⟩
    obtain ⟨i, x, k, h1, h2, rfl⟩ := flat_get (fun x hx => hsz x (hok x hx)) hu
    exact (hp i x h1).2 k u h2

theorem flat_one {l : List UInt8} : l.flatMap (fun x => [Value.int .u8 x.toNat]) = BV l := by
  induction l with
  | nil => rfl
  | cons x l ih => rw [List.flatMap_cons, ih]; rfl

theorem SeenV.bytes {R : Rd} {v : Value} (h : SeenV R (.sl 1 (.int .u8)) v) : ∃ l : List UInt8, l.length ≤ maxLen ∧ BsR R v l := by
  obtain ⟨l, _, hl, hs⟩ := h.slice (fun x : UInt8 => [Value.int .u8 x.toNat]) (fun _ => True) (fun _ _ => rfl) (fun xs _ hx => by
    obtain ⟨n, rfl, hw⟩ := hx
    have : 0 ≤ n ∧ n ≤ 255 := by simpa [Lit.wf, IntKind.has, IntKind.min, IntKind.max, IntKind.bits, IntKind.signed] using hw
    exact ⟨UInt8.ofNat n.toNat, trivial, by rw [← byte_of this.1 this.2]⟩)
  rw [flat_one] at hs
  exact ⟨l, hl, hs⟩

theorem SeenV.ints {R : Rd} {v : Value} (h : SeenV R (.sl 1 (.int .i64)) v) : ∃ l : List Int, (∀ x ∈ l, -9223372036854775808 ≤ x ∧ x ≤ 9223372036854775807) ∧ l.length ≤ maxLen ∧ SlR R 1 v l.length (l.flatMap fun x => [Value.int .i64 x]) := by
  exact h.slice (fun x : Int => [Value.int .i64 x]) (fun x => -9223372036854775808 ≤ x ∧ x ≤ 9223372036854775807) (fun _ _ => rfl) (fun xs _ hx => by
    obtain ⟨n, rfl, hw⟩ := hx
    exact ⟨n, by simpa [Lit.wf, IntKind.has, IntKind.min, IntKind.max, IntKind.bits, IntKind.signed] using hw, rfl⟩)

/-- A law's walk, out of its contract. -/
theorem law_walk {P : Program} {f : FuncId} {args : List Value} {w : World} (h : Fn P f args [] (fun a v => w.cell? a = some v) (fun v _ => v = .bool true)) :
    Calls P f args.toArray w (fun e w' => e = .returned (.bool true) ∧ Below w.heap.size w w') :=
  (h.2 w (Own.nil w) (fun _ _ h => h) (fun _ _ _ => by simp [idsOf])).mono fun _ _ ⟨_, _, he, hq, t⟩ => ⟨by rw [he, hq], t.below⟩

end Go.Proofs.YtbgfnofjnbpdgaaDoor
