/-
  'opE' is sound: each operation, and all together.
-/
import Derived.Test.YtbgfnofjnbpdgaaDoorVcg
import Derived.Test.YtbgfnofjnbpdgaaDoorVcm
namespace Go.Proofs.YtbgfnofjnbpdgaaDoor
open Go Go.RowKit

theorem src_kind {P : Program} {tab : Tab} (htab : TabOk P tab) {U : TypeId} {ui : TI} (h : lk tab U = some ui) (hs : isSrc ui.kind = true) : (∃ e', P.underlying U = some (.slice e')) ∨ P.underlying U = some .string := by
  cases hk : ui.kind <;> rw [hk] at hs <;> simp [isSrc] at hs
  · exact .inr ((lk_ok htab h).string hk)
  · exact .inl ⟨_, (lk_ok htab h).slice hk⟩

theorem appE_sound {P : Program} {tab : Tab} (htab : TabOk P tab) {R : Rd} {h : Hp} {w : World} (own : Own h w) (hr : RSat R w) {T U ty : TypeId} {s x : Value} {K : Value → Hp → Prop} (hE : appE tab R h T U s x K) :
    ∃ v h' w', (Builtin.append_ #[T, U] ty #[s, x]).run P w = .ok v w' ∧ Tr w h w' h' ∧ K v h' := by
  unfold appE at hE
  split at hE <;> first | exact hE.elim | skip
  rename_i ti ui A n cap hti hui
  split at hE <;> first | exact hE.elim | skip
  rename_i e hk
  split at hE <;> first | exact hE.elim | skip
  rename_i ei he
  obtain ⟨hbb, hE⟩ := chkB_of hE
  simp only [Bool.and_eq_true] at hbb
  have hs := hbb.1.1
  have hz := Nat.eq_of_beq_eq_true hbb.2
  obtain ⟨m, news, hsr, h1, hb, hml, hE⟩ := srcE_sound (P := P) hE
  have h1 := allOne_iff h1
  have hT := (lk_ok htab hti).slice hk
  have hU := src_kind htab hui hs
  rcases hE with ⟨rfl, rfl, rfl, hK⟩ | ⟨i, hE⟩
  · have hw0 : (HA.row .none 0 0 e ei.size [] (0, 0)).holds w := ⟨by simp, by omega, by simp, by simp, rfl⟩
    obtain ⟨A', cap', w', hrun, hg, ht⟩ := run_append_gen (ty := ty) hT hU (lk_ok htab he) hz hsr h1 hb hml (hr.rh own) hw0
    have hK := hK A' cap' hg
    rw [snocK_eq] at hK
    refine ⟨_, _, w', hrun, Tr.new own ?_, hK⟩
    refine ⟨ht.os, ht.tape, ht.output, ht.size, fun k hk _ => ht.keep k hk (by simp [idsOf, HA.ids, rowIds]), ht.own, fun g hg => ?_⟩
    rcases ht.fresh g hg with h | h
    · simp [idsOf, HA.ids, rowIds] at h
    · exact .inr h
  · obtain ⟨y, hy, hE⟩ := nthK_eq _ _ _ hE
    split at hE <;> first | exact hE.elim | skip
    rename_i A1 n1 cap1 e1 sz1 xs fz
    obtain ⟨rfl, rfl, rfl, rfl, rfl, rfl, hK⟩ := hE
    have hw0 := own.all _ (List.mem_of_getElem? hy)
    obtain ⟨A', cap', w', hrun, hg, ht⟩ := run_append_gen (ty := ty) hT hU (lk_ok htab he) hz hsr h1 hb hml (hr.rh own) hw0
    have hK := hK A' cap' hg
    rw [setHK_eq] at hK
    exact ⟨_, _, w', hrun, Tr.at_ own hy ht, hK⟩

theorem copyE_sound {P : Program} {tab : Tab} (htab : TabOk P tab) {R : Rd} {h : Hp} {w : World} (own : Own h w) (hr : RSat R w) {T U ty : TypeId} {s x : Value} {K : Value → Hp → Prop} (hE : copyE tab R h T s x K) :
    ∃ v h' w', (Builtin.copy_ #[T, U] ty #[s, x]).run P w = .ok v w' ∧ Tr w h w' h' ∧ K v h' := by
  unfold copyE at hE
  split at hE <;> first | exact hE.elim | skip
  rename_i ti A n cap hti
  split at hE <;> first | exact hE.elim | skip
  rename_i e hk
  split at hE <;> first | exact hE.elim | skip
  rename_i ei he
  obtain ⟨m, news, hsr, h1, hE⟩ := srcE_sound (P := P) hE
  have hT := (lk_ok htab hti).slice hk
  obtain ⟨s1, s2⟩ := hsr.2 w (hr.rh own)
  have s3 := s2 (min m n) (Nat.min_le_left _ _)
  have hmin : Nat.min m n = min m n := rfl
  rcases hE _ rfl with ⟨h0, hK⟩ | ⟨ad, rfl, i, hE⟩
  · refine ⟨_, h, w, ?_, Tr.refl own, hK⟩
    rw [h0] at s3
    simp only [Nat.zero_mul, List.take_zero] at s3
    cases A <;> simp [Builtin.copy_, run_underlying hT, run_sizeOf (lk_ok htab he), s1, hmin, h0, s3, goInt, storeCells]
  · obtain ⟨y, hy, hE⟩ := nthK_eq _ _ _ hE
    have h1' : ∀ v ∈ news.take (min m n * ei.size), v.oneCell' = true := fun v hv => allOne_iff h1 v (List.mem_of_mem_take hv)
    obtain ⟨y', hK, hst⟩ := stE_sound (P := P) h1' hE
    rw [setHK_eq] at hK
    obtain ⟨w', hrun, ht⟩ := hst w (own.all y (List.mem_of_getElem? hy))
    refine ⟨_, _, w', ?_, Tr.at_ own hy ht, hK⟩
    simp [Builtin.copy_, run_underlying hT, run_sizeOf (lk_ok htab he), s1, hmin, s3, goInt, hrun]

theorem length_fill {ρ : List Value} {place : Nat → Option (Nat × Nat)} {K : List Value → Prop} : ∀ (parts : List (Nat × Operand)) (cs : List Value), fillQ place ρ K parts cs → fillQ place ρ (fun c => c.length = cs.length ∧ K c) parts cs
  | [], cs, h => ⟨rfl, h⟩
  | (i, x) :: r, cs, h => by
    unfold fillQ at h ⊢
    split at h <;> first | exact h.elim | skip
    rename_i off size hp
    rw [evK_eq] at h ⊢
    obtain ⟨a, c⟩ := chkB_of h
    rw [a]
    show fillQ _ _ _ _ _
    have := length_fill r _ c
    rw [length_setRange] at this
    exact this

theorem buildSlice_sound {P : Program} {tab : Tab} (htab : TabOk P tab) {h : Hp} {w : World} (own : Own h w) {T e : TypeId} {ti ei : TI} (hti : lk tab T = some ti) (hk : ti.kind = .slice e) (he : lk tab e = some ei) {len : Nat} {parts : List (Nat × Operand)} {ρ : List Value} {K : Value → Hp → Prop}
    (h0 : 0 < ei.size) (hz : (cls ei.zero).length = ei.size) (hl : len * ei.size ≤ 16777216)
    (hE : fillQ (fun i => some (i * ei.size, ei.size)) ρ (fun cs => allOne cs = true ∧ ∀ g : Nat, snocK (.row (some ⟨g, 0, .none⟩) len len e ei.size cs (0, 0)) (fun h' => K (.slice (some ⟨g, 0, .none⟩) len len) h') h) parts (repl (cls ei.zero) len)) :
    ∃ v h' w', (Instr.buildSlice T len (parts.map fun (x : Nat × Operand) => (x.1, ev ρ x.2)).toArray).run P w = .ok v w' ∧ Tr w h w' h' ∧ K v h' := by
  obtain ⟨cs, hf, hcl, h1, hK⟩ := fill_sound (place' := fun i => some (i * ei.size, ei.size)) (fun i x hx => hx) parts _ (length_fill parts _ hE)
  have h1 := allOne_iff h1
  rw [length_repl, hz] at hcl
  have hK := hK w.heap.size
  rw [snocK_eq] at hK
  have hT := (lk_ok htab hti).slice hk
  have hzs : ei.zero.cells.size = ei.size := by rw [← hz, ← cls_eq, Array.length_toList]
  have hrep : (Array.range (len * ei.size)).map (ei.zero.cells[· % ei.zero.cells.size]!) = (repl (cls ei.zero) len).toArray := by
    have := cells_repl ei.zero.cells (by omega) len
    rw [cls_eq] at this
    rw [← this, hzs]
  refine ⟨_, _, w.alloc (.cells cs.toArray e), ?_, Tr.new own (Tr.alloc w _ rfl ?_), hK⟩
  · unfold Instr.buildSlice
    by_cases hn : len * ei.size = 0
    · have hlen : len = 0 := by
        rcases Nat.mul_eq_zero.1 hn with h | h
        · exact h
        · omega
      subst hlen
      have hrep0 : (Array.range 0).map ((#[] : Array Value)[· % (#[] : Array Value).size]!) = (repl (cls ei.zero) 0).toArray := by simp [repl, Array.range_zero']
      simp only [Sem.run_bind, run_underlying hT, Result.andThen_ok, run_sizeOf (lk_ok htab he)]
      simp only [Nat.zero_mul] at hf ⊢
      rw [if_neg (by omega)]
      simp only [if_true, Sem.run_pure, Result.andThen_ok, Sem.run_bind]
      simp only [Array.range_zero', Array.map_empty, repl] at hf ⊢
      simp [hf, newRow_eq]
    · simp only [Sem.run_bind, run_underlying hT, Result.andThen_ok, run_sizeOf (lk_ok htab he)]
      rw [if_neg (by omega), if_neg hn]
      simp only [Sem.run_bind, Sem.run_pure, Result.andThen_ok, run_zero (lk_ok htab he)]
      rw [hrep]
      simp [hf, newRow_eq]
  · have := holds_row_new w len len e ei.size cs [] hcl (Nat.le_refl _) (by
      have h6 : len * 1 ≤ len * ei.size := Nat.mul_le_mul_left _ h0
      have hm : maxLen = 9223372036854775807 := by simp [maxLen]
      omega) h1 (by rw [List.append_nil]; exact hcl)
    simpa using this

theorem freeze_eq (w : World) (g n : Nat) (c : Array Value) (e : TypeId) (h : w.heap[g]? = some (.cells c e (0, 0))) : w.freeze ⟨g, n, .none⟩ 1 = setBlk w g (.cells c e (n, n + 1)) := by
  unfold World.freeze setBlk
  rw [if_neg (by omega)]
  congr 1
  apply Array.ext_getElem?
  intro i
  rw [Array.getElem?_modify, Array.getElem?_setIfInBounds]
  split
  · rename_i he; subst he
    obtain ⟨hlt, he⟩ := Array.getElem?_eq_some_iff.1 h
    simp [hlt, he]
  · rfl

theorem run_stringToBytes {P : Program} (e : TypeId) (s : ByteArray) (w : World) (hs : s.data.toList.length ≤ maxLen) : ∃ cap w', (Conv.stringToBytes e s).run P w = .ok (.slice (some ⟨w.heap.size, 0, .none⟩) s.data.toList.length cap) w' ∧
    Tr w [] w' [.row (some ⟨w.heap.size, 0, .none⟩) s.data.toList.length cap e 1 (s.data.toList.map fun b => .int .u8 b.toNat) (cap, cap + 1)] := by
  have hsz := Lib.size_eq s
  have hge := grownCap_ge w s.size 0 e
  have hcm := grownCap_le_maxLen w s.size 0 e (by omega)
  have hq : (Question.appendCap s.size 0 e).forced = false := rfl
  generalize hcap : grownCap w s.size 0 e = cap at hge hcm
  have hb : (w.drew.alloc (.cells (s.data.map (fun b : UInt8 => Value.int .u8 b.toNat) ++ Array.replicate (cap - s.size) (Value.int .u8 0)) e)).heap[w.heap.size]? = some (.cells (s.data.map (fun b : UInt8 => Value.int .u8 b.toNat) ++ Array.replicate (cap - s.size) (Value.int .u8 0)) e (0, 0)) := heap_alloc_new w.drew _
  have hcells : (s.data.map (fun b : UInt8 => Value.int .u8 b.toNat) ++ Array.replicate (cap - s.size) (Value.int .u8 0)) = ((s.data.toList.map fun b : UInt8 => Value.int .u8 b.toNat) ++ List.replicate (cap - s.size) (Value.int .u8 0)).toArray := by
    apply Array.ext'; simp
  have hl : (s.data.map (fun b : UInt8 => Value.int .u8 b.toNat) ++ Array.replicate (cap - s.size) (Value.int .u8 0)).size = cap := by
    simp; omega
  have hfr := freeze_eq _ w.heap.size cap _ e hb
  refine ⟨cap, setBlk (w.drew.alloc (.cells (s.data.map (fun b : UInt8 => Value.int .u8 b.toNat) ++ Array.replicate (cap - s.size) (Value.int .u8 0)) e)) w.heap.size (.cells (s.data.map (fun b : UInt8 => Value.int .u8 b.toNat) ++ Array.replicate (cap - s.size) (Value.int .u8 0)) e (cap, cap + 1)), ?_, ?_⟩
  · rw [← hfr]
    have hch : (choose (.appendCap s.size 0 e)).run P w = .ok cap w.drew := by
      rw [← hcap]
      simp [hq, grownCap]
    unfold Conv.stringToBytes
    simp only [Sem.run_bind, hch, Result.andThen_ok, newRow_eq]
    have hsh : (w.drew.alloc (.cells (s.data.map (fun b : UInt8 => Value.int .u8 b.toNat) ++ Array.replicate (cap - s.size) (Value.int .u8 0)) e)).shape? w.heap.size = some (e, cap) := by
      unfold World.shape?
      rw [hb]
      simp only [hl]
    have hd : w.drew.heap.size = w.heap.size := rfl
    rw [hd]
    simp only [markStringish, Sem.run_bind, run_shape, Result.andThen_ok, hsh, run_freeze, Sem.run_pure]
    rw [hsz]
  · refine ⟨rfl, rfl, rfl, by simp [setBlk], fun k hk _ => ?_, ⟨fun y hy => ?_, by simp [idsOf, HA.ids, rowIds]⟩, fun g hg => ?_⟩
    · rw [setBlk_other _ _ _ _ (by omega)]
      exact Below.heap_alloc w.drew _ k hk
    · rw [List.mem_singleton.1 hy]
      refine ⟨by simp, by omega, hcm, fun x hx => ?_, rfl, rfl, List.replicate (cap - s.size) (Value.int .u8 0), ?_, ?_, .inr (by simp)⟩
      · obtain ⟨b, _, rfl⟩ := List.mem_map.1 hx; rfl
      · rw [← hcells]
        exact setBlk_get _ _ _ (by simp)
      · simp; omega
    · simp [idsOf, HA.ids, rowIds] at hg; subst hg; exact .inr (Nat.le_refl _)

theorem run_storeVar {P : Program} {T : TypeId} {ti : TI} (ht : TIok P T ti) {v : Value} (hl : (cls v).length = ti.size) {ad : Addr} {w w' : World} (hs : (storeCells ad (cls v)).run P w = .ok () w') : (storeVar T ad v).run P w = .ok () w' := by
  unfold storeVar
  rw [← cls_eq, Array.length_toList] at hl
  simp [run_sizeOf ht, hl, cls_eq, hs]

theorem markE_sound {P : Program} {h : Hp} {w : World} (own : Own h w) {A : Option Addr} {n cap : Nat} {K : Value → Hp → Prop} (hE : markE h A n cap K) {t e : TypeId} (hu : P.underlying t = some (.slice e)) (he : P.underlying e = some (.int .u8)) :
    ∃ v h' w', (convert t t (.slice A n cap)).run P w = .ok v w' ∧ Tr w h w' h' ∧ K v h' := by
  obtain ⟨i, hE⟩ := hE
  obtain ⟨y, hy, hE⟩ := nthK_eq _ _ _ hE
  split at hE <;> first | exact hE.elim | skip
  rename_i A1 n1 cap1 e1 sz1 xs fz
  obtain ⟨rfl, ⟨g, rfl⟩, rfl, rfl, hK⟩ := hE
  rw [setHK_eq] at hK
  have hw := own.all _ (List.mem_of_getElem? hy)
  have hw0 := hw
  obtain ⟨a1, a2, a3, a4, _, _, rest, hh, hl, _⟩ := hw
  simp only [Nat.mul_one] at hl
  refine ⟨_, _, setBlk w g (.cells (xs ++ rest).toArray e1 (cap1, cap1 + 1)), ?_, Tr.at_ own hy (Tr.setBlk_ (g := g) rfl rfl ?_), hK⟩
  · have hsh : w.shape? g = some (e1, cap1) := by
      unfold World.shape?
      rw [hh]
      simp only [List.size_toArray, hl]
    unfold convert
    simp only [Sem.run_bind, run_underlying hu, run_underlying he, Result.andThen_ok, beq_self_eq_true, markStringish, run_shape, hsh, run_freeze, Sem.run_pure]
    rw [freeze_eq w g cap1 _ e1 hh]
  · exact ⟨a1, a2, a3, a4, rfl, rfl, rest, setBlk_get _ _ _ (heap_lt hh), by simpa using hl, .inr (by simp)⟩

/-- An operation that yields a value and may have changed the memory. -/
theorem wp_value {P : Program} {o : Oper} {ρ : List Value} {ds : List Deferred} {h h' : Hp} {w w' : World} {K : Value → Hp → Prop} {next : Act → World → Prop} {Q : Exit → Act → World → Prop} {v : Value}
    (hn : ∀ v h' w', K v h' → Tr w h w' h' → next ((act ρ ds).put o.dst v) w') (hrun : (execOp (ev ρ) o).run P w = .ok (.value v) w') (ht : Tr w h w' h') (hK : K v h') : o.wp P (act ρ ds) w next Q := by
  unfold Oper.wp
  rw [act_eval, hrun]
  exact hn v h' w' hK ht

theorem wp_of_sem {P : Program} {o : Oper} {ρ : List Value} {ds : List Deferred} {h : Hp} {w : World} {K : Value → Hp → Prop} {next : Act → World → Prop} {Q : Exit → Act → World → Prop} {s : Sem Value} (he : execOp (ev ρ) o = (do pure (.value (← s)) : Sem Next))
    (hn : ∀ v h' w', K v h' → Tr w h w' h' → next ((act ρ ds).put o.dst v) w') (hs : ∃ v h' w', s.run P w = .ok v w' ∧ Tr w h w' h' ∧ K v h') : o.wp P (act ρ ds) w next Q := by
  obtain ⟨v, h', w', hr, ht, hK⟩ := hs
  exact wp_value hn (by rw [he]; simp only [Sem.run_bind, hr, Result.andThen_ok, Sem.run_pure]) ht hK

theorem wp_of_yld {P : Program} {R : Rd} {o : Oper} {ρ : List Value} {ds : List Deferred} {h : Hp} {w : World} {K : Value → Hp → Prop} {next : Act → World → Prop} {Q : Exit → Act → World → Prop} (own : Own h w) (hr : RSat R w)
    (hn : ∀ v h' w', K v h' → Tr w h w' h' → next ((act ρ ds).put o.dst v) w') (hy : ∃ v, Yld P (RH R h) ρ o v ∧ K v h) : o.wp P (act ρ ds) w next Q := by
  obtain ⟨v, hv, hK⟩ := hy
  exact wp_value hn (hv w (hr.rh own)) (Tr.refl own) hK

theorem wp_call {P : Program} {R : Rd} {o : Oper} {ρ : List Value} {ds : List Deferred} {h : Hp} {w : World} {K : Value → Hp → Prop} {next : Act → World → Prop} {Q : Exit → Act → World → Prop} (own : Own h w) (hr : RSat R w) (ap : Apart R h)
    (hn : ∀ v h' w', K v h' → Tr w h w' h' → next ((act ρ ds).put o.dst v) w') {f : FuncId} {args : List Value} (hrun : Callable P f → (execOp (ev ρ) o).run P w = .ok (.enter f args.toArray) w)
    (hE : callE P R h f args K) : o.wp P (act ρ ds) w next Q := by
  obtain ⟨is, hE⟩ := hE
  obtain ⟨hs, rest, hp, Post, hF, hK⟩ := pickK_sound _ _ _ hE
  have own2 := own.perm hp
  have ap2 := ap.perm hp
  unfold Oper.wp
  rw [act_eval, hrun hF.1]
  refine (hF.2 w own2.left (fun a v hv => ?_) (ap2.rh own2)).mono fun e w' he => ?_
  · rcases hv with hv | ⟨x, hx, hc⟩
    · exact hr a v hv
    · exact HA.cell_sound (own2.all x (List.mem_append_right _ hx)) hc
  · obtain ⟨v, h', rfl, hq, ht⟩ := he
    have hk := hK v h' hq
    rw [apHK_eq] at hk
    exact hn v _ w' hk ((Tr.refl own).frame hp ht)

theorem opE_sound {P : Program} {tab : Tab} (htab : TabOk P tab) {R : Rd} {o : Oper} {ρ : List Value} {ds : List Deferred} {h : Hp} {w : World} {K : Value → Hp → Prop} {next : Act → World → Prop} {Q : Exit → Act → World → Prop} (own : Own h w) (hr : RSat R w) (ap : Apart R h)
    (hn : ∀ v h' w', K v h' → Tr w h w' h' → next ((act ρ ds).put o.dst v) w') (hE : opE P tab R ρ h K o.op) : o.wp P (act ρ ds) w next Q := by
  obtain ⟨dst, op, type, pos, after, guard⟩ := o
  simp only at hE
  unfold opE at hE
  split at hE
  case h_1 =>
    rename_i T
    split at hE <;> first | exact hE.elim | skip
    rename_i ti hti
    refine wp_of_sem (s := Instr.alloc T true (.tuple #[])) rfl hn ?_
    have hK := hE w.heap.size
    rw [snocK_eq] at hK
    refine ⟨_, _, w.alloc (.cells (cls ti.zero).toArray T), ?_, Tr.new own (Tr.alloc w _ rfl (holds_blk_new w T _)), hK⟩
    unfold Instr.alloc
    simp only [Sem.run_bind, run_zero (lk_ok htab hti), Result.andThen_ok, newVar, newRow_eq, Sem.run_pure, ← cls_eq]
  case h_2 =>
    rename_i T x
    rw [evK_eq] at hE
    refine wp_of_sem (s := Instr.box T (ev ρ x)) rfl hn ?_
    have hK := hE w.heap.size
    rw [snocK_eq] at hK
    refine ⟨_, _, w.alloc (.cells (cls (ev ρ x)).toArray T), ?_, Tr.new own (Tr.alloc w _ rfl (holds_blk_new w T _)), hK⟩
    unfold Instr.box
    simp only [Sem.run_bind, Result.andThen_ok, newVar, newRow_eq, Sem.run_pure, ← cls_eq]
  case h_3 =>
    rename_i T a x
    rw [evK_eq, evK_eq] at hE
    split at hE <;> first | exact hE.elim | skip
    rename_i ad ti hp hti
    obtain ⟨hl, h1, i, hE⟩ := hE
    obtain ⟨y, hy, hE⟩ := nthK_eq _ _ _ hE
    obtain ⟨y', hK, hst⟩ := stE_sound (P := P) (allOne_iff h1) hE
    rw [setHK_eq] at hK
    obtain ⟨w', hrun, ht⟩ := hst w (own.all y (List.mem_of_getElem? hy))
    unfold Oper.wp
    rw [act_eval]
    simp only [execOp, hp, Instr.storeAt, Instr.sureAddr, Sem.run_bind, Sem.run_pure, Result.andThen_ok, run_storeVar (lk_ok htab hti) hl hrun]
    exact hn undef _ w' hK (Tr.at_ own hy ht)
  case h_4 =>
    rename_i T len parts
    split at hE <;> first | exact hE.elim | skip
    rename_i ti hti
    split at hE <;> first | exact hE.elim | skip
    rename_i e hk
    split at hE <;> first | exact hE.elim | skip
    rename_i ei he
    obtain ⟨hb, hE⟩ := chkB_of hE
    simp only [Bool.and_eq_true] at hb
    have h0 : 0 < ei.size := Nat.le_of_ble_eq_true hb.1.1
    have hz := Nat.eq_of_beq_eq_true hb.1.2
    have hl := Nat.le_of_ble_eq_true hb.2
    refine wp_of_sem (s := Instr.buildSlice T len (parts.map fun (x : Nat × Operand) => (x.1, ev ρ x.2))) rfl hn ?_
    rw [evs_pairs]
    exact buildSlice_sound htab own hti hk he h0 hz hl hE
  case h_5 =>
    rename_i T l c
    rw [evK_eq, evK_eq] at hE
    exact wp_of_sem (s := Instr.makeSlice T (ev ρ l) (ev ρ c)) rfl hn (makeE_sound htab own hE)
  case h_6 =>
    rename_i src dst x
    rw [evK_eq] at hE
    split at hE
    · rename_i s hs
      split at hE <;> first | exact hE.elim | skip
      rename_i si di hsi hdi
      split at hE <;> first | exact hE.elim | skip
      · rename_i e hk1 hk2
        split at hE <;> first | exact hE.elim | skip
        rename_i ei he
        obtain ⟨hb, hl, hK⟩ := chkB_of hE
        simp only [Bool.and_eq_true] at hb
        have e1 : ei.kind = .int .u8 := by have := hb.1; unfold isU8 at this; split at this <;> first | assumption | cases this
        refine wp_of_sem (s := convert src dst (ev ρ x)) rfl hn ?_
        obtain ⟨cap, w', hrun, ht⟩ := run_stringToBytes (P := P) e s w hl
        have hK := hK w.heap.size cap
        rw [snocK_eq] at hK
        refine ⟨_, _, w', ?_, Tr.new own ht, hK⟩
        rw [hs]
        unfold convert
        simp only [Sem.run_bind, run_underlying ((lk_ok htab hsi).string hk1), run_underlying ((lk_ok htab hdi).slice hk2), Result.andThen_ok, run_underlying ((lk_ok htab he).int e1), hrun]
      · rename_i hk1 hk2
        refine wp_of_sem (s := convert src dst (ev ρ x)) rfl hn ⟨_, _, w, ?_, Tr.refl own, hE⟩
        rw [hs]
        unfold convert
        simp only [Sem.run_bind, run_underlying ((lk_ok htab hsi).string hk1), run_underlying ((lk_ok htab hdi).string hk2), Result.andThen_ok, Sem.run_pure]
    · rename_i A n cap hs
      split at hE <;> first | exact hE.elim | skip
      rename_i si di hsi hdi
      split at hE
      · rename_i e e2 hk1 hk2
        split at hE <;> first | exact hE.elim | skip
        rename_i ei he
        obtain ⟨hb, hE2⟩ := chkB_of hE
        simp only [Bool.and_eq_true] at hb
        obtain rfl := Nat.eq_of_beq_eq_true hb.1
        have e1 : ei.kind = .int .u8 := by have := hb.2; unfold isU8 at this; split at this <;> first | assumption | cases this
        obtain ⟨v, h', w', hrun, htr, hK⟩ := markE_sound (P := P) own hE2 ((lk_ok htab hsi).slice hk1) ((lk_ok htab he).int e1)
        refine wp_of_sem (s := convert src src (ev ρ x)) rfl hn ⟨v, h', w', by rw [hs]; exact hrun, htr, hK⟩
      · obtain ⟨v, hv, hK⟩ := conv_sound (P := P) htab hE
        exact wp_of_sem (s := convert src dst (ev ρ x)) rfl hn ⟨v, h, w, by rw [hs]; exact hv w (hr.rh own), Tr.refl own, hK⟩
    · obtain ⟨v, hv, hK⟩ := conv_sound (P := P) htab hE
      exact wp_of_sem (s := convert src dst (ev ρ x)) rfl hn ⟨v, h, w, hv w (hr.rh own), Tr.refl own, hK⟩
  case h_7 =>
    rename_i f args ats
    rw [evK_eq, evsK_eq] at hE
    split at hE <;> first | exact hE.elim | skip
    rename_i f' first cap hf
    rw [apVK_eq, apVK_eq] at hE
    refine wp_call own hr ap hn (fun hc => ?_) hE
    simp only [execOp, resolve, Deferred.ofValue, hf, invoke, Sem.run_bind, Sem.run_pure, Result.andThen_ok]
    have : (first ++ args.map (ev ρ) ++ cap) = (first.toList ++ (args.toList.map (ev ρ) ++ cap.toList)).toArray := by
      apply Array.ext'; simp
    rw [this]
    exact run_callFunc_of hc _ w
  case h_8 =>
    rename_i args ats
    split at hE <;> first | exact hE.elim | skip
    rename_i s x T U ha ht
    obtain ⟨args⟩ := args
    obtain ⟨ats⟩ := ats
    simp only at ha ht
    subst ha ht
    rw [evK_eq, evK_eq] at hE
    obtain ⟨v, h', w', hrun, htr, hK⟩ := appE_sound (ty := type) htab own hr hE
    refine wp_value hn ?_ htr hK
    simp only [execOp, resolve, invoke, builtin, Sem.run_bind, Sem.run_pure, Result.andThen_ok, List.map_toArray, List.map_cons, List.map_nil, hrun]
  case h_9 =>
    rename_i args ats
    split at hE <;> first | exact hE.elim | skip
    rename_i s x T U ha ht
    obtain ⟨args⟩ := args
    obtain ⟨ats⟩ := ats
    simp only at ha ht
    subst ha ht
    rw [evK_eq, evK_eq] at hE
    obtain ⟨v, h', w', hrun, htr, hK⟩ := copyE_sound (U := U) (ty := type) htab own hr hE
    refine wp_value hn ?_ htr hK
    simp only [execOp, resolve, invoke, builtin, Sem.run_bind, Sem.run_pure, Result.andThen_ok, List.map_toArray, List.map_cons, List.map_nil, hrun]
  case h_10 =>
    rename_i T
    split at hE <;> first | exact hE.elim | skip
    refine wp_of_sem (s := Instr.makeMap T .none) rfl hn ?_
    have hK := hE w.heap.size
    rw [snocK_eq] at hK
    refine ⟨_, _, w.alloc (.map #[] 0), ?_, Tr.new own (Tr.newObj _ (fun _ _ _ e => by cases e)), hK⟩
    unfold Instr.makeMap
    simp only [Sem.run_bind, Sem.run_pure]
    rfl
  case h_11 =>
    rename_i T x ix ok
    rw [evK_eq, evK_eq] at hE
    exact wp_of_sem (s := Instr.lookup T (ev ρ x) (ev ρ ix) ok) rfl hn (lookE_sound htab own hE)
  case h_12 =>
    rename_i T m k x
    rw [evK_eq, evK_eq, evK_eq] at hE
    obtain ⟨h', w', hrun, ht, hK⟩ := mupdE_sound (P := P) htab own hE
    unfold Oper.wp
    rw [act_eval]
    simp only [execOp, Sem.run_bind, hrun, Result.andThen_ok, Sem.run_pure]
    exact hn undef _ w' hK ht
  case h_13 =>
    rename_i T x
    rw [evK_eq] at hE
    exact wp_of_sem (s := Instr.range T (ev ρ x)) rfl hn (rangeE_sound htab own hE)
  case h_14 =>
    rename_i it
    rw [evK_eq] at hE
    exact wp_of_sem (s := Instr.next (ev ρ it) false type) rfl hn (nextE_sound own hE)
  case h_15 =>
    rename_i it
    rw [evK_eq] at hE
    exact wp_of_sem (s := Instr.entry (ev ρ it)) rfl hn (entryE_sound own hE)
  case h_16 =>
    exact wp_of_yld own hr hn (opQ_sound htab hE)

end Go.Proofs.YtbgfnofjnbpdgaaDoor
