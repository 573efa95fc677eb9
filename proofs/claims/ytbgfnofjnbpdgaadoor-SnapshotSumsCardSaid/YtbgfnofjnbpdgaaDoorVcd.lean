/-
  'opQ' is sound: an operation that leaves the world alone yields its value in every world that has the cells.
-/
import Derived.Test.YtbgfnofjnbpdgaaDoorVcc
namespace Go.Proofs.YtbgfnofjnbpdgaaDoor
open Go Go.RowKit

/-- The operation yields 'v' in every world in which the cells of 'R' are as said. -/
def Yld (P : Program) (R : Rd) (ρ : List Value) (o : Oper) (v : Value) : Prop := ∀ w, RSat R w → (execOp (ev ρ) o).run P w = .ok (.value v) w

theorem Yld.of {P : Program} {R : Rd} {ρ : List Value} {o : Oper} {K : Value → Prop} {s : Sem Value} (he : execOp (ev ρ) o = (do pure (.value (← s)) : Sem Next)) (h : ∃ v, (∀ w, RSat R w → s.run P w = .ok v w) ∧ K v) : ∃ v, Yld P R ρ o v ∧ K v := by
  obtain ⟨v, hv, hK⟩ := h
  exact ⟨v, fun w hw => by rw [he]; simp only [Sem.run_bind, hv w hw, Result.andThen_ok, Sem.run_pure], hK⟩

theorem evs_pairs (ρ : List Value) (parts : Array (Nat × Operand)) : (parts.map fun (x : Nat × Operand) => (x.1, ev ρ x.2)) = (parts.toList.map fun (x : Nat × Operand) => (x.1, ev ρ x.2)).toArray := by
  apply Array.ext'
  simp

theorem conv_sound {P : Program} {tab : Tab} (htab : TabOk P tab) {R : Rd} {src dst : TypeId} {v : Value} {K : Value → Prop} (h : convQ tab R src dst v K) :
    ∃ r, (∀ w, RSat R w → (convert src dst v).run P w = .ok r w) ∧ K r := by
  unfold convQ at h
  split at h <;> first | exact h.elim | skip
  rename_i si di hs hd
  have oks := lk_ok htab hs
  have okd := lk_ok htab hd
  obtain ⟨ds, hds, _⟩ := oks.desc
  split at h <;> first | exact h.elim | skip
  · rename_i k1 k2 k3 n hk1 hk2
    refine ⟨_, fun w _ => ?_, h _ rfl⟩
    unfold convert
    simp only [Sem.run_bind, run_underlying (oks.int hk1), run_underlying (okd.int hk2), Result.andThen_ok, Conv.intToInt, Sem.run_pure]
  · rename_i s hk1 hk2
    refine ⟨_, fun w _ => ?_, h⟩
    unfold convert
    simp only [Sem.run_bind, run_underlying (oks.string hk1), run_underlying (okd.string hk2), Result.andThen_ok, Sem.run_pure]
  · rename_i e A n c hk1 hk2
    split at h <;> first | exact h.elim | skip
    rename_i ei he
    split at h <;> first | exact h.elim | skip
    rename_i hk3
    obtain ⟨l, hl, hr, hK⟩ := h
    refine ⟨_, fun w hw => ?_, hK⟩
    unfold convert
    simp only [Sem.run_bind, run_underlying (oks.slice hk1), run_underlying (okd.string hk2), Result.andThen_ok]
    have := run_bytesToStr (P := P) (c := c) hw hl hr
    simp only [run_underlying ((lk_ok htab he).int hk3), Result.andThen_ok, this]

theorem int_max (m n : Int) : (if n > m then n else m) = max m n := by
  have := Int.max_def m n; rw [this]; split <;> split <;> omega
theorem int_min (m n : Int) : (if n < m then n else m) = min m n := by
  have := Int.min_def m n; rw [this]; split <;> split <;> omega

theorem evO_map (ρ : List Value) (x : Option Operand) : x.map (ev ρ) = evO ρ x := by cases x <;> rfl

theorem opQ_sound {P : Program} {tab : Tab} (htab : TabOk P tab) {R : Rd} {ρ : List Value} {o : Oper} {K : Value → Prop} (h : opQ tab R ρ K o.op) : ∃ v, Yld P R ρ o v ∧ K v := by
  obtain ⟨dst, op, type, pos, after, guard⟩ := o
  simp only at h
  unfold opQ at h
  split at h <;> (try rw [evK_eq] at h)
  case h_1 => exact ⟨_, fun w _ => by simp only [execOp, Sem.run_pure], h⟩
  case h_2 => exact ⟨_, fun w _ => by simp only [execOp, Sem.run_pure], h⟩
  case h_3 =>
    rename_i c a b
    split at h <;> first | exact h.elim | skip
    rename_i t hc
    simp only [evK_eq] at h
    cases t
    · exact ⟨_, fun w _ => by simp [execOp, hc, asBool], h.2 rfl⟩
    · exact ⟨_, fun w _ => by simp [execOp, hc, asBool], h.1 rfl⟩
  case h_4 =>
    rename_i T a
    split at h <;> first | exact h.elim | skip
    rename_i ad ti hp hti
    refine Yld.of (s := Instr.loadAt T (ev ρ a)) rfl ?_
    rw [hp]
    have ok := lk_ok htab hti
    split at h
    · rename_i hk
      obtain ⟨vs, h1, h2, hK⟩ := h
      exact ⟨_, fun w hw => by simp only [Instr.loadAt, Instr.sureAddr, Sem.run_bind, Sem.run_pure, Result.andThen_ok, run_loadVar_agg hw ok hk h1 h2], hK⟩
    · rename_i hk
      obtain ⟨v, h1, hK⟩ := h
      exact ⟨_, fun w hw => by simp only [Instr.loadAt, Instr.sureAddr, Sem.run_bind, Sem.run_pure, Result.andThen_ok, run_loadVar_one hw ok hk h1], hK⟩
  case h_5 =>
    rename_i x
    split at h <;> first | exact h.elim | skip
    · rename_i a hx
      exact ⟨_, fun w _ => by simp only [execOp, hx, Sem.run_pure], h⟩
    · rename_i f a b hx
      exact ⟨_, fun w _ => by simp only [execOp, hx, Sem.run_pure], h⟩
  case h_6 =>
    rename_i op t x y ty
    rw [evK_eq] at h
    obtain ⟨v, hv, hK⟩ := binQ_sound (P := P) htab h x y
    exact Yld.of (s := (do eqGuard op t x y (ev ρ x) (ev ρ y); binOp op t (ev ρ x) (ev ρ y))) rfl ⟨v, fun w _ => hv w, hK⟩
  case h_7 =>
    rename_i op t x
    refine Yld.of (s := Op.unary op (ev ρ x)) rfl ?_
    split at h <;> first | exact h.elim | skip
    · rename_i b hx; rw [hx]; exact ⟨_, fun w _ => by simp [Op.unary], h⟩
    · rename_i k n hx; rw [hx]; exact ⟨_, fun w _ => by simp [Op.unary, Op.intArith], h _ rfl⟩
    · rename_i k n hx; rw [hx]; exact ⟨_, fun w _ => by simp [Op.unary, Op.intBits, bitsOp], h _ rfl⟩
  case h_8 =>
    rename_i src dst x
    exact Yld.of (s := convert src dst (ev ρ x)) rfl (conv_sound htab h)
  case h_9 =>
    rename_i fn first captured
    rw [evsK_eq, evsK_eq] at h
    refine ⟨_, fun w _ => ?_, h⟩
    simp only [execOp, Instr.makeFunc, Sem.run_bind, Sem.run_pure, Result.andThen_ok]
    congr 3
    · apply Array.ext'; simp
    · apply Array.ext'; simp
  case h_10 =>
    rename_i T parts
    split at h <;> first | exact h.elim | skip
    rename_i ti hti
    refine Yld.of (s := Instr.build T (parts.map fun (x : Nat × Operand) => (x.1, ev ρ x.2))) rfl ?_
    rw [evs_pairs]
    split at h <;> first | exact h.elim | skip
    · rename_i fs hk
      obtain ⟨cs, hcs, hK⟩ := run_build_struct htab (lk_ok htab hti) hk (chkB_of h).1 (chkB_of h).2
      exact ⟨_, fun w _ => hcs w, hK⟩
    · rename_i n e hk
      split at h <;> first | exact h.elim | skip
      rename_i ei he
      obtain ⟨cs, hcs, hK⟩ := run_build_array (lk_ok htab hti) hk (lk_ok htab he) h
      exact ⟨_, fun w _ => hcs w, hK⟩
  case h_11 =>
    rename_i T x lo hi
    split at h <;> first | exact h.elim | skip
    rename_i ti hti
    refine Yld.of (s := Instr.sliceAt T (ev ρ x) (lo.map (ev ρ)) (hi.map (ev ρ)) .none) rfl ?_
    rw [evO_map, evO_map]
    split at h <;> first | exact h.elim | skip
    · rename_i s hk hx
      obtain ⟨l, hh, h1, h2, h3, h4, hK⟩ := h
      rw [hx]
      exact ⟨_, fun w _ => run_sliceAt_string ((lk_ok htab hti).string hk) h1 h2 h3 h4 w, hK⟩
    · rename_i e A n cap hk hx
      split at h <;> first | exact h.elim | skip
      rename_i ei he
      obtain ⟨l, hh, h1, h2, h3, h4, hK⟩ := h
      rw [hx]
      exact ⟨_, fun w _ => run_sliceAt_slice ((lk_ok htab hti).slice hk) (lk_ok htab he) h1 h2 h3 h4 w, hK⟩
    · rename_i n e a hk hx
      split at h <;> first | exact h.elim | skip
      rename_i ei he
      obtain ⟨l, hh, h1, h2, h3, h4, hK⟩ := h
      rw [hx]
      exact ⟨_, fun w _ => run_sliceAt_array ((lk_ok htab hti).array hk) (lk_ok htab he) h1 h2 h3 h4 w, hK⟩
  case h_12 =>
    rename_i S x f
    split at h <;> first | exact h.elim | skip
    rename_i a ti hx hti
    split at h <;> first | exact h.elim | skip
    rename_i fs hk
    obtain ⟨fields, hu, hfs⟩ := (lk_ok htab hti).struct hk
    obtain ⟨fd, hfd, h⟩ := nthK_eq _ _ _ h
    split at h <;> first | exact h.elim | skip
    rename_i fi hfi
    obtain ⟨d, hd, e1, e2⟩ := field_of hfs hfd
    obtain ⟨hb, h⟩ := chkB_of h
    have hz : fi.size ≠ 0 := by have := Nat.le_of_ble_eq_true hb; omega
    refine Yld.of (s := Instr.fieldAt S (ev ρ x) f) rfl ⟨_, fun w _ => ?_, h⟩
    rw [hx, run_fieldAt hu hd (fi := fi) (by rw [e2]; exact lk_ok htab hfi) hz, e1, addA_eq]
  case h_13 =>
    rename_i S x f
    split at h <;> first | exact h.elim | skip
    rename_i c ti hx hti
    split at h <;> first | exact h.elim | skip
    rename_i fs hk
    obtain ⟨fields, hu, hfs⟩ := (lk_ok htab hti).struct hk
    obtain ⟨fd, hfd, h⟩ := nthK_eq _ _ _ h
    obtain ⟨d, hd, e1, e2⟩ := field_of hfs hfd
    rw [← e1, ← e2] at h
    obtain ⟨v, hv, hK⟩ := run_field htab hu hd h
    exact Yld.of (s := Instr.field S (ev ρ x) f) rfl ⟨_, fun w _ => by rw [hx]; exact hv w, hK⟩
  case h_14 =>
    rename_i T x i
    rw [evK_eq] at h
    split at h <;> first | exact h.elim | skip
    rename_i k i' ti hi hti
    refine Yld.of (s := Instr.indexAt T (ev ρ x) (ev ρ i)) rfl ?_
    split at h <;> first | exact h.elim | skip
    · rename_i e A n c hk hx
      split at h <;> first | exact h.elim | skip
      rename_i ei he
      obtain ⟨h1, h2, a, rfl, hK⟩ := h
      exact ⟨_, fun w _ => by rw [hx, hi, run_indexAt_slice ((lk_ok htab hti).slice hk) (lk_ok htab he) h1 h2, addA_eq], hK⟩
    · rename_i n e a hk hx
      split at h <;> first | exact h.elim | skip
      rename_i ei he
      obtain ⟨h1, h2, hK⟩ := h
      exact ⟨_, fun w _ => by rw [hx, hi, run_indexAt_array ((lk_ok htab hti).array hk) (lk_ok htab he) h1 h2, addA_eq], hK⟩
  case h_15 =>
    rename_i T x i
    rw [evK_eq] at h
    split at h <;> first | exact h.elim | skip
    rename_i k i' ti hi hti
    refine Yld.of (s := Instr.index T (ev ρ x) (ev ρ i)) rfl ?_
    split at h <;> first | exact h.elim | skip
    · rename_i s hk hx
      obtain ⟨h1, b, hb, hK⟩ := h
      exact ⟨_, fun w _ => by rw [hx, hi]; exact run_index_string ((lk_ok htab hti).string hk) h1 hb w, hK⟩
    · rename_i n e c hk hx
      split at h <;> first | exact h.elim | skip
      rename_i ei he
      obtain ⟨h1, h2, h⟩ := h
      obtain ⟨v, hv, hK⟩ := run_index_array htab ((lk_ok htab hti).array hk) (lk_ok htab he) (k := k) h1 h2 h
      exact ⟨_, fun w _ => by rw [hx, hi]; exact hv w, hK⟩
  case h_16 =>
    rename_i x i
    split at h <;> first | exact h.elim | skip
    rename_i vs hx
    obtain ⟨v, hv, hK⟩ := nthK_eq _ _ _ h
    refine Yld.of (s := Instr.extract (ev ρ x) i) rfl ⟨v, fun w _ => ?_, hK⟩
    have : vs[i]? = some v := by simpa using hv
    rw [hx]
    simp [Instr.extract, this]
  case h_17 =>
    rename_i args ats
    split at h <;> first | exact h.elim | skip
    rename_i x t ha ht
    obtain ⟨args⟩ := args
    obtain ⟨ats⟩ := ats
    simp only at ha ht
    subst ha ht
    rw [evK_eq] at h
    obtain ⟨r, hr, hK⟩ := run_len (P := P) (ty := type) htab h
    refine ⟨r, fun w _ => ?_, hK⟩
    simp only [execOp, resolve, invoke, builtin, Sem.run_bind, Sem.run_pure, Result.andThen_ok, List.map_toArray, List.map_cons, List.map_nil, hr]
  case h_18 =>
    rename_i args ats
    split at h <;> first | exact h.elim | skip
    rename_i x y ha
    obtain ⟨args⟩ := args
    simp only at ha
    subst ha
    rw [evK_eq, evK_eq] at h
    split at h <;> first | exact h.elim | skip
    rename_i k m k' n hx hy
    refine ⟨_, fun w _ => ?_, h _ rfl⟩
    simp [execOp, resolve, invoke, builtin, hx, hy, Builtin.max_, Builtin.max2, int_max]
  case h_19 =>
    rename_i args ats
    split at h <;> first | exact h.elim | skip
    rename_i x y ha
    obtain ⟨args⟩ := args
    simp only at ha
    subst ha
    rw [evK_eq, evK_eq] at h
    split at h <;> first | exact h.elim | skip
    rename_i k m k' n hx hy
    refine ⟨_, fun w _ => ?_, h _ rfl⟩
    simp [execOp, resolve, invoke, builtin, hx, hy, Builtin.min_, Builtin.min2, int_min]
  all_goals exact h.elim

end Go.Proofs.YtbgfnofjnbpdgaaDoor
