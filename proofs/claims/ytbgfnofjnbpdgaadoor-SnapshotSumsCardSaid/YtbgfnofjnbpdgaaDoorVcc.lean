/-
  The formulas of the operations that leave the world alone are sound.
-/
import Derived.Test.YtbgfnofjnbpdgaaDoorVcb
namespace Go.Proofs.YtbgfnofjnbpdgaaDoor
open Go Go.RowKit

theorem loadCells_sound {P : Program} {R : Rd} {w : World} (hr : RSat R w) {a : Addr} {vs : List Value} (h : RdN R a vs) : (loadCells a vs.length).run P w = .ok ⟨vs⟩ w := by
  have key : ∀ (l : List Value) (i : Nat) (acc : Array Value), (∀ j v, l[j]? = some v → R (a.add (i + j)) v) → (loadCellsFrom a i l.length acc).run P w = .ok (acc ++ l.toArray) w := by
    intro l
    induction l with
    | nil => intro i acc _; simp [loadCellsFrom]
    | cons x l ih =>
      intro i acc hl
      have h0 := hr _ _ (hl 0 x (by simp))
      simp only [Nat.add_zero] at h0
      have := ih (i + 1) (acc.push x) (fun j v hv => by have := hl (j + 1) v (by simpa using hv); rwa [show i + (j + 1) = i + 1 + j by omega] at this)
      simp only [List.length_cons, loadCellsFrom, load, Sem.run_bind, Sem.run, h0, Result.andThen_ok, this]
      simp
  have := key vs 0 #[] (fun j v hv => by simpa using h j v hv)
  simpa [loadCells] using this

theorem run_loadVar_agg {P : Program} {R : Rd} {w : World} (hr : RSat R w) {t : TypeId} {ti : TI} (ht : TIok P t ti) (hk : ti.kind.agg = true) {a : Addr} {vs : List Value} (h : RdN R a vs) (hl : vs.length = ti.size) :
    (loadVar t a).run P w = .ok (.agg ⟨vs⟩) w := by
  unfold loadVar
  simp only [Sem.run_bind, run_isAgg ht, Result.andThen_ok, hk, if_true, run_sizeOf ht, ← hl, loadCells_sound hr h, Sem.run_pure]

theorem run_loadVar_one {P : Program} {R : Rd} {w : World} (hr : RSat R w) {t : TypeId} {ti : TI} (ht : TIok P t ti) (hk : ti.kind.agg = false) {a : Addr} {v : Value} (h : R a v) :
    (loadVar t a).run P w = .ok v w := by
  unfold loadVar
  simp [Sem.run_bind, run_isAgg ht, Result.andThen_ok, hk, load, Sem.run, hr _ _ h]

theorem foldl_push (l : List UInt8) : ∀ s : ByteArray, (l.map fun b => ((b.toNat : Nat) : Int)).foldl (fun r n => r.push (UInt8.ofNat n.toNat)) s = ⟨⟨s.data.toList ++ l⟩⟩ := by
  induction l with
  | nil => intro s; simp
  | cons b l ih =>
    intro s
    simp only [List.map_cons, List.foldl_cons]
    rw [ih]
    congr 2
    simp [ByteArray.push]

theorem run_bytesToStr {P : Program} {R : Rd} {w : World} (hr : RSat R w) {A : Option Addr} {n c : Nat} {l : List UInt8} (hl : l.length = n)
    (h : ∀ j b, l[j]? = some b → ∃ a, A = some a ∧ R (a.add j) (.int .u8 b.toNat)) : (Conv.bytesToString (.slice A n c)).run P w = .ok (.string ⟨⟨l⟩⟩) w := by
  cases A with
  | none =>
    cases l with
    | nil => simp [Conv.bytesToString]; rfl
    | cons b l => obtain ⟨a, ha, _⟩ := h 0 b (by simp); cases ha
  | some a =>
    have hrd : RdN R a (l.map fun b => Value.int .u8 b.toNat) := by
      intro j v hv
      rw [List.getElem?_map] at hv
      cases hb : l[j]? with
      | none => rw [hb] at hv; cases hv
      | some b =>
        rw [hb] at hv
        simp only [Option.map_some, Option.some.injEq] at hv
        obtain ⟨a', ha, hR⟩ := h j b hb
        cases ha
        rw [← hv]; exact hR
    have hc := loadCells_sound (P := P) hr hrd
    rw [List.length_map, hl] at hc
    have := run_bytesToString (P := P) w a n c (l.map fun b => ((b.toNat : Nat) : Int)) (by rw [hc, List.map_map]; rfl)
    rw [this, foldl_push]
    simp

theorem boundLo_run {P : Program} {x : Option Value} {l h : Nat} (hx : boundLo x = some (l : Int)) (hlh : l ≤ h) (code : BoundsCode) (w : World) :
    (match x with | some v => Instr.sliceBound v h code | .none => pure 0 : Sem Nat).run P w = .ok l w := by
  cases x with
  | none =>
    have : l = 0 := by simpa [boundLo, eq_comm] using hx
    subst this; simp
  | some v =>
    cases v <;> simp [boundLo] at hx
    subst hx
    simp [Instr.sliceBound, asIntOf, hlh]

theorem boundHi_run {P : Program} {x : Option Value} {d h y : Nat} (hx : boundHi d x = some (h : Int)) (hh : h ≤ y) (code : BoundsCode) (w : World) :
    (match x with | some v => Instr.sliceBound v y code | .none => pure d : Sem Nat).run P w = .ok h w := by
  cases x with
  | none =>
    have : h = d := by simp [boundHi] at hx; omega
    subst this; simp
  | some v =>
    cases v <;> simp [boundHi] at hx
    subst hx
    simp [Instr.sliceBound, asIntOf, hh]

theorem run_sliceBounds {P : Program} {isSlice : Bool} {n cap l h : Nat} {lo hi : Option Value} (hl : boundLo lo = some (l : Int)) (hh : boundHi n hi = some (h : Int)) (h1 : l ≤ h) (h2 : h ≤ cap) (w : World) :
    (Instr.sliceBounds isSlice n cap lo hi .none).run P w = .ok (l, h, cap) w := by
  unfold Instr.sliceBounds
  simp only [Sem.run_bind, Sem.run_pure, Result.andThen_ok]
  cases hi with
  | none =>
    have : h = n := by simp [boundHi] at hh; omega
    subst this
    have := boundLo_run (P := P) hl h1 .sliceB w
    cases lo with
    | none => simp at this ⊢; exact this
    | some v => simp at this ⊢; simp [this]
  | some u =>
    have h3 := fun code => boundHi_run (P := P) hh h2 code w
    simp only at h3
    have h4 := boundLo_run (P := P) hl h1 .sliceB w
    cases lo with
    | none => simp [h3] at h4 ⊢; exact h4
    | some v => simp [h3] at h4 ⊢; simp [h4]

theorem run_sliceAt_string {P : Program} {t : TypeId} (hu : P.underlying t = some .string) {s : ByteArray} {l h : Nat} {lo hi : Option Value} (hl : boundLo lo = some (l : Int))
    (hh : boundHi s.data.toList.length hi = some (h : Int)) (h1 : l ≤ h) (h2 : h ≤ s.data.toList.length) (w : World) :
    (Instr.sliceAt t (.string s) lo hi .none).run P w = .ok (.string ⟨⟨(s.data.toList.drop l).take (h - l)⟩⟩) w := by
  have hsz := Lib.size_eq s
  rw [← hsz] at hh h2
  unfold Instr.sliceAt
  simp only [Sem.run_bind, run_underlying hu, Result.andThen_ok]
  unfold Instr.slice
  simp only [Sem.run_bind, run_underlying hu, Result.andThen_ok, Option.isSome_none, Bool.false_eq_true, if_false, Sem.run_pure, run_sliceBounds hl hh h1 h2]
  rw [Lib.extract_eq]

theorem run_sliceAt_slice {P : Program} {t e : TypeId} {ei : TI} (hu : P.underlying t = some (.slice e)) (he : TIok P e ei) {A : Option Addr} {n cap l h : Nat} {lo hi : Option Value} (hl : boundLo lo = some (l : Int))
    (hh : boundHi n hi = some (h : Int)) (h1 : l ≤ h) (h2 : h ≤ cap) (w : World) :
    (Instr.sliceAt t (.slice A n cap) lo hi .none).run P w = .ok (.slice (sliceBase A cap l ei.size) (h - l) (cap - l)) w := by
  unfold Instr.sliceAt
  simp only [Sem.run_bind, run_underlying hu, Result.andThen_ok]
  unfold Instr.slice
  simp only [Sem.run_bind, run_underlying hu, Result.andThen_ok, Sem.run_pure, run_sliceBounds hl hh h1 h2, run_sizeOf he]
  rfl

theorem run_sliceAt_array {P : Program} {t e : TypeId} {ei : TI} {n : Nat} (hu : P.underlying t = some (.array n e)) (he : TIok P e ei) {a : Addr} {l h : Nat} {lo hi : Option Value} (hl : boundLo lo = some (l : Int))
    (hh : boundHi n hi = some (h : Int)) (h1 : l ≤ h) (h2 : h ≤ n) (w : World) :
    (Instr.sliceAt t (.pointer (some a)) lo hi .none).run P w = .ok (.slice (sliceBase (some a) n l ei.size) (h - l) (n - l)) w := by
  unfold Instr.sliceAt
  simp only [Sem.run_bind, run_underlying hu, Result.andThen_ok, Instr.sureAddr, Sem.run_pure, run_sliceBounds hl hh h1 h2, run_sizeOf he]
  congr 2
  simp only [sliceBase, Option.map_some]
  split <;> rfl

theorem run_fieldAt {P : Program} {s : TypeId} {fields : Array Field} (hu : P.underlying s = some (.struct fields)) {f : Nat} {fd : Field} (hf : fields[f]? = some fd) {fi : TI} (hi : TIok P fd.type fi) (hz : fi.size ≠ 0) (a : Addr) (w : World) :
    (Instr.fieldAt s (.pointer (some a)) f).run P w = .ok (.pointer (some (a.add fd.offset))) w := by
  unfold Instr.fieldAt
  simp only [Sem.run_bind, run_underlying hu, Result.andThen_ok, hf, Instr.sureAddr, Sem.run_pure, fieldPlace, run_sizeOf hi, hz, if_false]

theorem run_part {P : Program} {tab : Tab} (htab : TabOk P tab) {cs : Array Value} {off : Nat} {t : TypeId} {K : Value → Prop} (h : partQ tab cs.toList off t K) :
    ∃ v, (∀ w, (part t cs off).run P w = .ok v w) ∧ K v := by
  unfold partQ at h
  split at h <;> first | exact h.elim | skip
  rename_i ti hti
  have ok := lk_ok htab hti
  split at h
  · rename_i hk
    refine ⟨_, fun w => ?_, h⟩
    unfold part
    simp only [Sem.run_bind, run_isAgg ok, Result.andThen_ok, hk, if_true, run_sizeOf ok, Sem.run_pure]
    congr 2
    apply Array.ext'
    simp
  · rename_i hk
    obtain ⟨v, hv, hK⟩ := nthK_eq _ _ _ h
    refine ⟨v, fun w => ?_, hK⟩
    unfold part
    simp only [Sem.run_bind, run_isAgg ok, Result.andThen_ok, hk, Bool.false_eq_true, if_false]
    have : cs[off]? = some v := by simpa using hv
    simp [this]

theorem run_field {P : Program} {tab : Tab} (htab : TabOk P tab) {s : TypeId} {fields : Array Field} (hu : P.underlying s = some (.struct fields)) {f : Nat} {fd : Field} (hf : fields[f]? = some fd) {cs : Array Value} {K : Value → Prop} (h : partQ tab cs.toList fd.offset fd.type K) :
    ∃ v, (∀ w, (Instr.field s (.agg cs) f).run P w = .ok v w) ∧ K v := by
  obtain ⟨v, hv, hK⟩ := run_part htab h
  refine ⟨v, fun w => ?_, hK⟩
  unfold Instr.field
  simp only [Sem.run_bind, run_underlying hu, Result.andThen_ok, hf, asAgg, Sem.run_pure, hv]

theorem field_of {fields : Array Field} {fs : List (Nat × TypeId)} (h : fields.toList.map (fun f => (f.offset, f.type)) = fs) {f : Nat} {x : Nat × TypeId} (hx : fs[f]? = some x) :
    ∃ fd, fields[f]? = some fd ∧ fd.offset = x.1 ∧ fd.type = x.2 := by
  subst h
  rw [List.getElem?_map] at hx
  cases hf : fields.toList[f]? with
  | none => rw [hf] at hx; cases hx
  | some fd =>
    rw [hf] at hx
    simp only [Option.map_some, Option.some.injEq] at hx
    refine ⟨fd, by simpa using hf, ?_, ?_⟩ <;> rw [← hx]

theorem run_indexAt_slice {P : Program} {t e : TypeId} {ei : TI} (hu : P.underlying t = some (.slice e)) (he : TIok P e ei) {a : Addr} {n c : Nat} {k : IntKind} {i : Int} (h0 : 0 ≤ i) (h1 : i < n) (w : World) :
    (Instr.indexAt t (.slice (some a) n c) (.int k i)).run P w = .ok (.pointer (some (a.add (i.toNat * ei.size)))) w := by
  unfold Instr.indexAt
  simp [asIntOf, run_underlying hu, run_sizeOf he, h0, h1]

theorem run_indexAt_array {P : Program} {t e : TypeId} {ei : TI} {n : Nat} (hu : P.underlying t = some (.array n e)) (he : TIok P e ei) {a : Addr} {k : IntKind} {i : Int} (h0 : 0 ≤ i) (h1 : i < (n : Int)) (w : World) :
    (Instr.indexAt t (.pointer (some a)) (.int k i)).run P w = .ok (.pointer (some (a.add (i.toNat * ei.size)))) w := by
  unfold Instr.indexAt
  simp [asIntOf, run_underlying hu, run_sizeOf he, h0, h1, Instr.sureAddr]

theorem run_index_string {P : Program} {t : TypeId} (hu : P.underlying t = some .string) {s : ByteArray} {k : IntKind} {i : Int} (h0 : 0 ≤ i) {b : UInt8} (hb : s.data.toList[i.toNat]? = some b) (w : World) :
    (Instr.index t (.string s) (.int k i)).run P w = .ok (.int .u8 b.toNat) w := by
  have hlt := (List.getElem?_eq_some_iff.1 hb)
  obtain ⟨hlt, he⟩ := hlt
  have hs : i.toNat < s.size := by rw [Lib.size_eq]; exact hlt
  have hget : s[i.toNat]? = some b := by
    rw [getElem?_pos s i.toNat hs]
    congr 1
  unfold Instr.index
  simp [asIntOf, run_underlying hu, h0, hget]

theorem run_index_array {P : Program} {tab : Tab} (htab : TabOk P tab) {t e : TypeId} {ei : TI} {n : Nat} (hu : P.underlying t = some (.array n e)) (he : TIok P e ei) {cs : Array Value} {k : IntKind} {i : Int} (h0 : 0 ≤ i) (h1 : i < (n : Int)) {K : Value → Prop}
    (h : partQ tab cs.toList (i.toNat * ei.size) e K) : ∃ v, (∀ w, (Instr.index t (.agg cs) (.int k i)).run P w = .ok v w) ∧ K v := by
  obtain ⟨v, hv, hK⟩ := run_part htab h
  refine ⟨v, fun w => ?_, hK⟩
  unfold Instr.index
  simp [asIntOf, run_underlying hu, run_sizeOf he, h0, h1, hv]

theorem run_len {P : Program} {tab : Tab} (htab : TabOk P tab) {t ty : TypeId} {v : Value} {K : Value → Prop} (h : lenQ tab t v K) :
    ∃ r, (∀ w, (Builtin.len_ #[t] ty #[v]).run P w = .ok r w) ∧ K r := by
  unfold lenQ at h
  split at h <;> first | exact h.elim | skip
  rename_i ti hti
  have ok := lk_ok htab hti
  split at h <;> first | exact h.elim | skip
  · rename_i hk
    exact ⟨_, fun w => by simp [Builtin.len_, run_underlying (ok.string hk), goInt]; rfl, by simpa using h⟩
  · rename_i hk
    exact ⟨_, fun w => by simp [Builtin.len_, run_underlying (ok.slice hk), goInt], h⟩
  · rename_i hk
    exact ⟨_, fun w => by simp [Builtin.len_, run_underlying (ok.array hk), goInt], h⟩

theorem foldl_setRange (n : Nat) : ∀ (vs : List Value) (cs : Array Value) (off k : Nat), k + vs.length = n →
    (vs.zipIdx k).foldl (fun cs (x : Value × Nat) => cs.setIfInBounds (off + x.2) x.1) cs = (setRange cs.toList (off + k) vs).toArray
  | [], cs, off, k, _ => by simp [setRange]
  | v :: vs, cs, off, k, h => by
    simp only [List.zipIdx_cons, List.foldl_cons]
    rw [foldl_setRange n vs _ off (k + 1) (by simp at h; omega)]
    simp [setRange, Nat.add_assoc]

theorem length_setRange : ∀ (vs cs : List Value) (off : Nat), (setRange cs off vs).length = cs.length
  | [], _, _ => rfl
  | v :: vs, cs, off => by rw [setRange, length_setRange vs]; simp

theorem fill_sound {ρ : List Value} {place place' : Nat → Option (Nat × Nat)} (hp : ∀ i x, place i = some x → place' i = some x) {K : List Value → Prop} : ∀ (parts : List (Nat × Operand)) (cs : List Value),
    fillQ place ρ K parts cs → ∃ cs', Instr.fill place' cs.toArray (parts.map fun (x : Nat × Operand) => (x.1, ev ρ x.2)) = some cs'.toArray ∧ K cs'
  | [], cs, h => ⟨cs, rfl, h⟩
  | (i, x) :: r, cs, h => by
    unfold fillQ at h
    split at h <;> first | exact h.elim | skip
    rename_i off size hpl
    rw [evK_eq] at h
    obtain ⟨hb, h⟩ := chkB_of h
    simp only [Bool.and_eq_true] at hb
    have h1 := Nat.eq_of_beq_eq_true hb.1
    have h2 := Nat.le_of_ble_eq_true hb.2
    obtain ⟨cs', h3, hK⟩ := fill_sound hp r _ h
    refine ⟨cs', ?_, hK⟩
    simp only [List.map_cons, Instr.fill, hp _ _ hpl]
    rw [← cls_eq] at h1 h2 h3
    rw [Array.length_toList] at h1 h2
    rw [if_neg (by simp only [List.size_toArray, Bool.or_eq_true, decide_eq_true_eq]; omega)]
    rw [← h3]
    congr 1
    have := foldl_setRange (ev ρ x).cells.toList.length (ev ρ x).cells.toList cs.toArray off 0 (by simp)
    simp only [Nat.add_zero] at this
    rw [← this]
    rw [← Array.foldl_toList]
    simp

theorem structPlace_ok {P : Program} {tab : Tab} (htab : TabOk P tab) : ∀ (fs : List (Nat × TypeId)) (i : Nat) (x : Nat × Nat), structPlace tab fs i = some x →
    ∃ t ti, fs[i]? = some (x.1, t) ∧ lk tab t = some ti ∧ ti.size = x.2
  | [], _, _, h => by cases h
  | (off, t) :: r, 0, x, h => by
    unfold structPlace at h
    split at h <;> cases h
    rename_i ti hti
    exact ⟨t, ti, rfl, hti, rfl⟩
  | _ :: r, n + 1, x, h => by
    obtain ⟨t, ti, h1, h2⟩ := structPlace_ok htab r n x h
    exact ⟨t, ti, by simpa using h1, h2⟩

theorem run_zero {P : Program} {t : TypeId} {ti : TI} (h : TIok P t ti) (w : World) : (zeroValue t).run P w = .ok ti.zero w := by
  obtain ⟨i, hi, _, _, hz⟩ := h.info
  simp [zeroValue, typeInfo, hi, hz]

theorem run_places {P : Program} {tab : Tab} (htab : TabOk P tab) : ∀ (fields : List Field), allIn tab (fields.map fun f => (f.offset, f.type)) = true →
    ∃ ps : List (Nat × Nat), (∀ w, (fields.mapM (fun f : Field => (do pure (f.offset, ← sizeOf f.type) : Sem (Nat × Nat)))).run P w = .ok ps w) ∧
      ∀ i x, structPlace tab (fields.map fun f => (f.offset, f.type)) i = some x → ps[i]? = some x
  | [], _ => ⟨[], fun w => by simp, fun i x h => by cases h⟩
  | f :: r, h => by
    simp only [List.map_cons, allIn] at h
    split at h <;> first | cases h | skip
    rename_i ti hti
    obtain ⟨ps, hps, hpl⟩ := run_places htab r h
    refine ⟨(f.offset, ti.size) :: ps, fun w => ?_, fun i x hx => ?_⟩
    · simp only [List.mapM_cons, Sem.run_bind, run_sizeOf (lk_ok htab hti), Result.andThen_ok, Sem.run_pure, hps]
    · cases i with
      | zero =>
        simp only [List.map_cons, structPlace, hti, Option.some.injEq] at hx
        simpa using hx
      | succ i => simpa using hpl i x (by simpa [structPlace] using hx)

theorem run_build_struct {P : Program} {tab : Tab} (htab : TabOk P tab) {t : TypeId} {ti : TI} (ht : TIok P t ti) {fs : List (Nat × TypeId)} (hk : ti.kind = .struct fs) (hall : allIn tab fs = true) {ρ : List Value} {K : List Value → Prop} {parts : List (Nat × Operand)}
    (h : fillQ (structPlace tab fs) ρ K parts (cls ti.zero)) : ∃ cs, (∀ w, (Instr.build t (parts.map fun (x : Nat × Operand) => (x.1, ev ρ x.2)).toArray).run P w = .ok (.agg ⟨cs⟩) w) ∧ K cs := by
  obtain ⟨fields, hu, hfs⟩ := ht.struct hk
  rw [← hfs] at hall h
  obtain ⟨ps, hps, hpl⟩ := run_places (P := P) htab fields.toList hall
  obtain ⟨cs, hf, hK⟩ := fill_sound (place' := (ps[·]?)) (fun i x hx => hpl i x hx) parts _ h
  refine ⟨cs, fun w => ?_, hK⟩
  unfold Instr.build
  rw [← cls_eq] at hf
  simp only [Sem.run_bind, run_zero ht, Result.andThen_ok, run_underlying hu]
  rw [Array.mapM_eq_mapM_toList]
  simp only [Sem.run_map, hps]
  simp at hf ⊢
  simp [hf]

theorem run_build_array {P : Program} {t e : TypeId} {ti ei : TI} {n : Nat} (ht : TIok P t ti) (hk : ti.kind = .array n e) (he : TIok P e ei) {ρ : List Value} {K : List Value → Prop} {parts : List (Nat × Operand)}
    (h : fillQ (fun i => some (i * ei.size, ei.size)) ρ K parts (cls ti.zero)) : ∃ cs, (∀ w, (Instr.build t (parts.map fun (x : Nat × Operand) => (x.1, ev ρ x.2)).toArray).run P w = .ok (.agg ⟨cs⟩) w) ∧ K cs := by
  obtain ⟨cs, hf, hK⟩ := fill_sound (place' := fun i => some (i * ei.size, ei.size)) (fun i x hx => hx) parts _ h
  refine ⟨cs, fun w => ?_, hK⟩
  unfold Instr.build
  rw [← cls_eq] at hf
  simp only [Sem.run_bind, run_zero ht, Result.andThen_ok, run_underlying (ht.array hk), run_sizeOf he]
  simp at hf ⊢
  simp [hf]

end Go.Proofs.YtbgfnofjnbpdgaaDoor
