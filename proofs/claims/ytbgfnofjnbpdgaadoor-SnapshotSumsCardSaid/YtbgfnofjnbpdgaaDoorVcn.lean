/-
  Ranges over a function: code within a round; functions that hold such a range.
-/
import Derived.Test.YtbgfnofjnbpdgaaDoorVck
import Derived.RangeFuncNested
import Derived.RangeFuncLeaves
import Derived.RangeFuncCalls
import Derived.TacticsIn
import Derived.Sort.LoopGhostIn
namespace Go.Proofs.YtbgfnofjnbpdgaaDoor
open Go Go.RowKit
set_option linter.unusedVariables false

abbrev inR (l : Nat) : Fence := Fence.wide.inRound l
theorem depth_inR (l : Nat) {p : Prop} (h : (inR l).depth.isSome = true) : p := by simp [Fence.wide] at h

theorem wpIn_of_wp {P : Program} {o : Oper} {a : Act} {w : World} {next : Act → World → Prop} {Q : Exit → Act → World → Prop} {l n : Nat} (hd : ∀ c, o.op ≠ .defer c) (h : o.wp P a w next Q) : o.wpIn (inR l) n P a w next Q := by
  refine ⟨fun _ _ => trivial, ?_⟩
  rw [show (inR l).round = some l from rfl, Oper.semAt_some _ _ _ hd]
  unfold Oper.wp at h
  generalize (execOp a.eval o).run P w = r at *
  cases r with
  | ok x w' =>
    cases x with
    | value v => exact h
    | skip => exact h
    | defer d => exact h
    | enter f args => exact ⟨fun h => depth_inR l h, CallsIn.inRound l (callsIn_wide.2 h)⟩
    | row r args => exact ⟨fun h => depth_inR l h, fun c cs _ => by obtain ⟨v, w2, hv, hs⟩ := h c cs; exact ⟨v, w2, hv, stepsIn_wide.2 hs⟩⟩
    | _ => exact False.elim h
  | halt x w' => cases x <;> exact h

def noDef : List Oper → Bool
  | [] => true
  | o :: r => (match o.op with | .defer _ => false | _ => noDef r)
def roundOk : Code → Bool
  | .skip => true
  | .label _ => true
  | .exit _ => true
  | .ret => true
  | .region _ ops draw => (match draw with | false => noDef ops.toList | true => false)
  | .seq a b => roundOk a && roundOk b
  | .cond _ a b => roundOk a && roundOk b
  | .block _ c => roundOk c
  | _ => false

theorem vcOps_soundIn {P : Program} {tab : Tab} (htab : TabOk P tab) {R : Rd} {all : List Oper} {K : Kont} {Q : Exit → Act → World → Prop} {lp n : Nat} : ∀ (l : List Oper) {ρ : List Value} {ds : List Deferred} {h : Hp} {w : World}, noDef l = true → Own h w → RSat R w → Apart R h →
    (∀ ρ' ds' h' w', K ρ' ds' h' → Tr w h w' h' → Q .normal (act ρ' ds') w') → vcOps P tab R all K l ρ ds h → wpListIn (inR lp) n P all.toArray Q l (act ρ ds) w
  | [], ρ, ds, h, w, _, own, _, _, hn, hE => hn _ _ _ w hE (Tr.refl own)
  | o :: r, ρ, ds, h, w, hd, own, hr, ap, hn, hE => by
    have hd2 : (∀ c, o.op ≠ .defer c) ∧ noDef r = true := by
      unfold noDef at hd
      split at hd
      · cases hd
      · rename_i hne; exact ⟨fun c e => hne c e, hd⟩
    have := vcOp_sound (Q := Q) (next := wpListIn (inR lp) n P all.toArray Q r) htab own hr ap (fun ρ' ds' h' w' hK ht =>
      vcOps_soundIn htab r hd2.2 ht.own (hr.tr ap ht) (Apart.tr hr ap ht) (fun ρ2 ds2 h2 w2 hK2 ht2 => hn _ _ _ w2 hK2 (ht.trans ht2)) hK) hE
    unfold wpListIn
    split
    · rename_i hw; rw [if_pos hw] at this; exact wpIn_of_wp hd2.1 this
    · rename_i hw; rw [if_neg hw] at this; exact ⟨fun _ _ => trivial, this⟩

/-- Code within a round, out of its formula. -/
theorem vcC_soundIn {P : Program} {tab : Tab} (htab : TabOk P tab) {R : Rd} {lp n : Nat} (c : Code) : ∀ {N : Kont} {X : Nat → Kont} {Rt : Kont} {ρ : List Value} {ds : List Deferred} {h : Hp} {w : World} {Q : Exit → Act → World → Prop}, roundOk c = true → Own h w → RSat R w → Apart R h →
    (∀ ρ' ds' h' w', N ρ' ds' h' → Tr w h w' h' → Q .normal (act ρ' ds') w') → (∀ i ρ' ds' h' w', X i ρ' ds' h' → Tr w h w' h' → Q (.exit i) (act ρ' ds') w') → (∀ ρ' ds' h' w', Rt ρ' ds' h' → Tr w h w' h' → Q .ret (act ρ' ds') w') →
    vcC P tab R c N X Rt ρ ds h → c.wpIn (inR lp) n P Q (act ρ ds) w := by
  induction c with
  | skip => intro N X Rt ρ ds h w Q hc own hr ap hN hX hR hE; exact wpIn_skip (hN _ _ _ w hE (Tr.refl own))
  | label l => intro N X Rt ρ ds h w Q hc own hr ap hN hX hR hE; exact wpIn_label (hN _ _ _ w hE (Tr.refl own))
  | exit id => intro N X Rt ρ ds h w Q hc own hr ap hN hX hR hE; exact wpIn_exit (hX _ _ _ _ w hE (Tr.refl own))
  | ret => intro N X Rt ρ ds h w Q hc own hr ap hN hX hR hE; exact wpIn_ret (hR _ _ _ w hE (Tr.refl own))
  | region id ops draw =>
    intro N X Rt ρ ds h w Q hc own hr ap hN hX hR hE
    obtain ⟨l⟩ := ops
    unfold vcC at hE
    unfold roundOk at hc
    cases draw with
    | false => exact wpIn_region_lit (vcOps_soundIn htab l hc own hr ap hN hE)
    | true => cases hc
  | seq a b iha ihb =>
    intro N X Rt ρ ds h w Q hc own hr ap hN hX hR hE
    unfold roundOk at hc
    simp only [Bool.and_eq_true] at hc
    refine wpIn_seq (iha hc.1 own hr ap (fun ρ' ds' h' w' hK ht => ?_) hX hR hE)
    exact ihb hc.2 ht.own (hr.tr ap ht) (Apart.tr hr ap ht) (fun ρ2 ds2 h2 w2 hK2 ht2 => hN _ _ _ w2 hK2 (ht.trans ht2)) (fun i ρ2 ds2 h2 w2 hK2 ht2 => hX i _ _ _ w2 hK2 (ht.trans ht2)) (fun ρ2 ds2 h2 w2 hK2 ht2 => hR _ _ _ w2 hK2 (ht.trans ht2)) hK
  | cond x a b iha ihb =>
    intro N X Rt ρ ds h w Q hc own hr ap hN hX hR hE
    unfold roundOk at hc
    simp only [Bool.and_eq_true] at hc
    unfold vcC at hE
    rw [evK_eq] at hE
    split at hE <;> first | exact hE.elim | skip
    rename_i t hx
    refine wpIn_cond_split (t := t) (by rw [act_eval]; exact hx) (fun ht => iha hc.1 own hr ap hN hX hR (hE.1 ht)) (fun ht => ihb hc.2 own hr ap hN hX hR (hE.2 ht))
  | block id c ih =>
    intro N X Rt ρ ds h w Q hc own hr ap hN hX hR hE
    unfold roundOk at hc
    refine wpIn_block (ih hc own hr ap hN (fun i ρ' ds' h' w' hK ht => ?_) hR hE)
    simp only [Exit.inBlock]
    by_cases hi : i = id
    · rw [if_pos hi]
      subst hi
      have hb : Nat.beq i i = true := Nat.beq_refl i
      rw [hb] at hK
      exact hN _ _ _ w' hK ht
    · rw [if_neg hi]
      have hb : Nat.beq i id = false := by
        cases hb : Nat.beq i id
        · rfl
        · exact absurd (Nat.eq_of_beq_eq_true hb) hi
      rw [hb] at hK
      exact hX i _ _ _ w' hK ht
  | _ => intro N X Rt ρ ds h w Q hc own hr ap hN hX hR hE; cases hc

/-! ### a function that holds a range over a function -/
/-- The marks among the deferred calls are shut; then the results. -/
def runM (K : Hp → Prop) : List Deferred → Hp → Prop
  | [], h => K h
  | d :: ds, h => (match d.target with
    | .collected D => ∃ i, nthK (fun y => (match y with
      | .obj D' (.deferred (some [])) => D' = D ∧ setHK (.obj D (.deferred .none)) i h fun h2 => runM K ds h2
      | _ => False)) h i
    | _ => False)

theorem runM_sound {P : Program} {tab : Tab} (htab : TabOk P tab) {R : Rd} {ρ : List Value} {fn : Func} {w0 : World} {h0 : Hp} {Post : Value → Hp → Prop} {n : Nat} : ∀ (ds : List Deferred) (h : Hp) (w : World), Tr w0 h0 w h → RSat R w → Apart R h →
    runM (fun h => resK tab (RH R h) ρ fn.results.toList fun l => ∃ h', Ent h h' ∧ Post (retV l) h') ds h → LeavesInM Fence.wide n P fn ρ.toArray (FnPost w0 h0 Post) ds .returning w
  | [], h, w, ht, hr, ap, hE => by
    obtain ⟨vs, h1, h', he, hp⟩ := run_results (P := P) htab (hr.rh ht.own) hE
    exact ⟨_, h1, _, h', rfl, hp, ht.ent he⟩
  | d :: ds, h, w, ht, hr, ap, hE => by
    obtain ⟨target, dargs⟩ := d
    unfold runM at hE
    split at hE <;> first | exact hE.elim | skip
    rename_i D htar
    simp only at htar; subst htar
    obtain ⟨i, hE⟩ := hE
    obtain ⟨y, hy, hE⟩ := nthK_eq _ _ _ hE
    split at hE <;> first | exact hE.elim | skip
    rename_i D'
    obtain ⟨rfl, hE⟩ := hE
    rw [setHK_eq] at hE
    have hw := ht.own.all _ (List.mem_of_getElem? hy)
    have htt := Tr.at_ ht.own hy (Tr.setObj_ (o' := .deferred .none) hw.1 (fun _ _ _ e => by cases e))
    refine ⟨by simp, .inl ⟨D', setBlk w D' (.deferred .none), rfl, ?_, runM_sound htab ds _ _ (ht.trans htt) (hr.tr ap htt) (Apart.tr hr ap htt) hE⟩⟩
    unfold Instr.takeDeferred
    simp only [Sem.run_bind, run_getObj hw.1 hw.2, Result.andThen_ok, run_setObj hw.1 hw.2, Sem.run_pure]

def retM (tab : Tab) (R : Rd) (rs : List ResultVar) (Post : Value → Hp → Prop) : Kont :=
  fun ρ ds h => runM (fun h => resK tab (RH R h) ρ rs fun l => ∃ h', Ent h h' ∧ Post (retV l) h') ds h

theorem fnM_of_vc {P : Program} (hm : P.follows .mixedOrders = true) {tab : Tab} (htab : TabOk P tab) {f : FuncId} {fn : Func} {c : Code} (hf : P.funcs[f]? = some fn) (hb : fn.body = some c) (hname : (fn.name == "runtime.NumGoroutine") = false)
    {args : List Value} {h : Hp} {R : Rd} {Post : Value → Hp → Prop} (hl : args.length ≤ fn.ntmps)
    (hvc : iniK fn.ntmps args fun ρ => vcC P tab R c (retM tab R fn.results.toList Post) (fun _ _ _ _ => False) (retM tab R fn.results.toList Post) ρ [] h) : Fn P f args h R Post := by
  refine ⟨⟨fn, hf, by simp [hb], hname⟩, fun w own hr ap => ?_⟩
  rw [iniK_eq _ _ _ hl] at hvc
  refine (callsIn_wide (n := 4)).1 (callsIn_of_wp_marks hf hb trivial (wpIn_wide.2 ?_))
  have e : (args.toArray ++ Array.replicate (fn.ntmps - args.toArray.size) undef) = (args ++ List.replicate (fn.ntmps - args.length) undef).toArray := by
    apply Array.ext'; simp
  rw [e]
  refine vcC_sound hm htab c own hr ap (fun ρ ds h' w' hK ht => ?_) (fun i ρ ds h' w' hK _ => False.elim hK) (fun ρ ds h' w' hK ht => ?_) hvc
  · exact runM_sound htab ds h' w' ht (hr.tr ap ht) (Apart.tr hr ap ht) hK
  · exact runM_sound htab ds h' w' ht (hr.tr ap ht) (Apart.tr hr ap ht) hK

/-! ### the loop -/
/-- Memory whose blocks hold cells. -/
def HA.isC : HA → Bool
  | .blk .. => true
  | .row .. => true
  | .rows _ => true
  | _ => false
/-- What is there is of the memory 'h', or holds cells. -/
def Near (h h' : Hp) : Prop := ∀ y ∈ h', y ∈ h ∨ y.isC = true
theorem Near.refl (h : Hp) : Near h h := fun _ hy => .inl hy

theorem isC_cells {y : HA} {W : World} (h : y.holds W) (hc : y.isC = true) : ∀ g ∈ y.ids, ∃ c t f, W.heap[g]? = some (.cells c t f) := by
  intro g hg
  have hrow : ∀ {A : Option Addr} {n cap : Nat} {e : TypeId} {sz : Nat} {xs : List Value} {fz : Nat × Nat}, rowHolds W A n cap e sz xs fz → g ∈ rowIds A → ∃ c t f, W.heap[g]? = some (.cells c t f) := by
    intro A n cap e sz xs fz hh hg
    cases A with
    | none => simp [rowIds] at hg
    | some a =>
      simp only [rowIds, List.mem_singleton] at hg
      subst hg
      obtain ⟨_, _, _, _, _, _, rest, hh, _⟩ := hh
      exact ⟨_, _, _, hh⟩
  cases y with
  | blk g' t cs => simp only [HA.ids, List.mem_singleton] at hg; subst hg; exact ⟨_, _, _, h⟩
  | row A n cap e sz xs fz => exact hrow h hg
  | rows l =>
    obtain ⟨r, hr, hgr⟩ := List.mem_flatMap.1 hg
    exact hrow (h r hr) hgr
  | obj r o => cases hc
  | ro ids C => cases hc

/-- A step of the book-keeping at a block behind the memory that the loop began with. -/
theorem Tr.grown {w W W' : World} {h h' : Hp} {row : Option Nat} (own : Own h w) (t : Tr w h W h') (hn : Near h h') (hg : W.grownBy W' row) (hr : ∀ r, row = some r → w.heap.size ≤ r ∧ ∃ o : Obj, W.heap[r]? = some o ∧ o.isCells = false) : Tr w h W' h' := by
  have hs := hg.size
  have hne : ∀ x ∈ h', ∀ g ∈ x.ids, some g ≠ row := by
    intro x hx g hgx e
    obtain ⟨h1, o, ho, hc⟩ := hr g e.symm
    rcases hn x hx with hx' | hx'
    · have := own.lt (mem_idsOf.2 ⟨x, hx', hgx⟩); omega
    · obtain ⟨c, t', f, hcs⟩ := isC_cells (t.own.all x hx) hx' g hgx
      rw [hcs] at ho; cases ho; simp [Obj.isCells] at hc
  refine ⟨hg.os.trans t.os, hg.tape.trans t.tape, hg.output.trans t.output, by have := t.size; omega, fun k h1 h2 => ?_, ⟨fun x hx => ?_, t.own.nd⟩, t.fresh⟩
  · exact (hg.block k (by have := t.size; omega) (fun e => by have := (hr k e.symm).1; omega)).trans (t.keep k h1 h2)
  · exact HA.holds_congr hs (fun g hgx => hg.block g (HA.holds_lt (t.own.all x hx) g hgx) (hne x hx g hgx)) (t.own.all x hx)

theorem Tr.keepsFrom {w W W' : World} {h h' h2 : Hp} (own : Own h w) (t : Tr w h W h') (hn : Near h h') (s : Tr W h' W' h2) : KeepsFrom w.heap.size W W' := by
  refine ⟨s.size, fun k o hB hk ho => (s.keep k (heap_lt hk) (fun hm => ?_)).trans hk⟩
  obtain ⟨x, hx, hgx⟩ := mem_idsOf.1 hm
  rcases hn x hx with hx' | hx'
  · have := own.lt (mem_idsOf.2 ⟨x, hx', hgx⟩); omega
  · obtain ⟨c, t', f, hcs⟩ := isC_cells (t.own.all x hx) hx' k hgx
    rw [hcs] at hk; cases hk; simp [Obj.isCells] at ho

/-- A block of the book-keeping joins the memory at hand. -/
theorem Tr.join {w W : World} {h h' : Hp} {D : Nat} {o : Obj} (own : Own h w) (t : Tr w h W h') (hn : Near h h') (hD : w.heap.size ≤ D) (ho : W.heap[D]? = some o) (hc : ∀ c t f, o ≠ .cells c t f) : Tr w h W (h' ++ [.obj D o]) := by
  have hnot : D ∉ idsOf h' := fun hm => by
    obtain ⟨x, hx, hgx⟩ := mem_idsOf.1 hm
    rcases hn x hx with hx' | hx'
    · have := own.lt (mem_idsOf.2 ⟨x, hx', hgx⟩); omega
    · obtain ⟨c, t', f, hcs⟩ := isC_cells (t.own.all x hx) hx' D hgx
      rw [hcs] at ho; cases ho; exact hc _ _ _ rfl
  refine ⟨t.os, t.tape, t.output, t.size, t.keep, ⟨fun x hx => ?_, ?_⟩, fun g hg => ?_⟩
  · rcases List.mem_append.1 hx with hx | hx
    · exact t.own.all x hx
    · rw [List.mem_singleton.1 hx]; exact ⟨ho, hc⟩
  · rw [idsOf_append]
    refine List.nodup_append.2 ⟨t.own.nd, by simp [idsOf, HA.ids], fun g hg g' hg' e => ?_⟩
    have : g' = D := by simpa [idsOf, HA.ids] using hg'
    subst this; subst e; exact hnot hg
  · rw [idsOf_append] at hg
    rcases List.mem_append.1 hg with hg | hg
    · exact t.fresh g hg
    · have : g = D := by simpa [idsOf, HA.ids] using hg
      subst this; exact .inr hD

theorem foldl_sets : ∀ (S : List Nat) (vs ρ : List Value), (S.zip vs).foldl (fun t (p, v) => t.setIfInBounds p v) ρ.toArray = (setsL S vs ρ).toArray
  | [], _, _ => by cases ‹List Value› <;> rfl
  | _ :: _, [], _ => rfl
  | s :: S, v :: vs, ρ => by
    rw [List.zip_cons_cons, List.foldl_cons, setsL, ← foldl_sets S vs (ρ.set s v)]
    simp

/-- What a round that goes on keeps: all that may be read. -/
def KpR (R : Rd) (h : Hp) : World → World → Prop := fun A B => RSat (RH R h) A → RSat (RH R h) B
def collD (D : Nat) : Deferred := { target := .collected D, args := #[] }

theorem vc_range {P : Program} {tab : Tab} (htab : TabOk P tab) {α : Type} {enc : α → List Value} {xs : List α} {R : Rd} {f : Operand} {ps : Array Tmp} {assign body : Code} {ρ : List Value} {ds : List Deferred} {h : Hp} {gf : FuncId} {lb : List Value}
    (hf : ev ρ f = .func (.func gf) #[] lb.toArray) (hcall : Callable P gf) (hps : ∀ x, (enc x).length = ps.size)
    (hseq : ∀ w, Own h w → RSat R w → SeqStopsK Fence.wide 3 P gf lb.toArray (fun x => (enc x).toArray) (KpR R h) (fun ys => ys = xs) (fun pre => pre <+: xs) xs.length w)
    (hra : roundOk assign = true) (hrb : roundOk body = true) (NA : α → List Value → Hp → Prop) (inv : List α → Prop) (stop : List α → Hp → Prop) (h0 : inv [])
    (hassign : ∀ x, vcC P tab R assign (fun ρ' ds' h' => ds' = [] ∧ Near h h' ∧ Ent h' h ∧ NA x ρ' h') (fun _ _ _ _ => False) (fun _ _ _ => False) (setsL ps.toList (enc x) ρ) [] h)
    (hbody : ∀ pre x ρ' h', inv pre → NA x ρ' h' → vcC P tab R body (fun _ _ h2 => Ent h2 h ∧ inv (pre ++ [x])) (fun _ _ _ _ => False) (fun _ _ h2 => ∃ hS, Ent h2 hS ∧ Near h hS ∧ stop (pre ++ [x]) hS) ρ' [] h') :
    ∀ w, Own h w → RSat R w → Apart R h → (Code.rangeFunc f ps assign body).wp P (fun e a' w' => ∃ ρ' ds' h', a' = act ρ' ds' ∧ Tr w h w' h' ∧ (match e with
      | .normal => ρ' = ρ ∧ inv xs ∧ ∃ D, ds' = collD D :: ds ∧ h' = h ++ [.obj D (.deferred (some []))]
      | .ret => ρ' = ρ ∧ ∃ pre hS D, pre <+: xs ∧ stop pre hS ∧ ds' = collD D :: ds ∧ h' = hS ++ [.obj D (.deferred (some []))]
      | _ => False)) (act ρ ds) w := by
  intro w own hr ap
  have hRw : RSat (RH R h) w := hr.rh own
  have hlt : ∀ a v, RH R h a v → a.block < w.heap.size := fun a v hv => cell_lt (hRw a v hv)
  have hkeep : ∀ {W W' : World} {h' : Hp}, Tr w h W h → Tr W h W' h' → Ent h' h → RSat (RH R h) W' := fun t s e =>
    (hr.tr ap (t.trans s)).rh (s.ent e).own
  refine (wpIn_wide (n := 4)).1 (wpIn_rangeFunc_ownH (F := Fence.wide) (n := 4) (Q := _) rfl (by omega) (lb := lb.toArray) (by rw [act_eval]; exact hf) trivial (fun args w => run_callFunc_of hcall args w) (hseq w own hr)
    (fun k1 k2 hs => k2 (k1 hs)) (fun W l o o' hl ho _ _ hs a v hv => ?_) (Below.refl _ w) (fun x => by simpa using hps x)
    (fun pre W => inv pre ∧ Tr w h W h) (fun c pre W => c = .ret ∧ ∃ hS, Near h hS ∧ stop pre hS ∧ Tr w h W hS) ?_ ?_ ⟨h0, Tr.refl own⟩
    (fun x a' W => ∃ ρ' h', NA x ρ' h' ∧ a' = act ρ' [] ∧ Near h h' ∧ Ent h' h ∧ Tr w h W h') ?_ ?_ ?_ ?_ ?_)
  · rw [← hs a v hv]
    exact World.cell?_of_block (World.putObj_heap_other (by have := hlt a v hv; omega))
  · rintro pre W W' row ⟨hi, t⟩ hg hrow
    exact ⟨hi, t.grown own (Near.refl h) hg hrow⟩
  · rintro c pre W W' row ⟨hc, hS, hn, hs, t⟩ hg hrow
    exact ⟨hc, hS, hn, hs, t.grown own hn hg hrow⟩
  · rintro x a' _ W W' row ⟨ρ', h', h1, h2, h3, h4, t⟩ hg hrow
    exact ⟨ρ', h', h1, h2, h3, h4, t.grown own h3 hg hrow⟩
  · rintro l pre x W K ⟨hi, t⟩ hK
    have e : ((ps.zip ((fun x => (enc x).toArray) x)).foldl (fun t (p, v) => t.setIfInBounds p v) (act ρ ds).tmps) = (setsL ps.toList (enc x) ρ).toArray := by
      rw [← foldl_sets, ← Array.foldl_toList]
      simp
    rw [e]
    refine vcC_soundIn htab assign hra t.own (hr.tr ap t) (Apart.tr hr ap t) (fun ρ' ds' h' W' hN s => ?_) (fun _ _ _ _ _ hX _ => False.elim hX) (fun _ _ _ _ hX _ => False.elim hX) (hassign x)
    obtain ⟨rfl, h3, h4, h5⟩ := hN
    exact hK _ W' (Tr.keepsFrom own t (Near.refl h) s) (fun _ => hkeep t s h4) ⟨hi, t.trans (s.ent h4)⟩ ⟨ρ', h', h5, rfl, h3, h4, t.trans s⟩
  · rintro l pre x a' W hl hrl ⟨hi, t0⟩ ⟨ρ', h', h1, rfl, h3, h4, t⟩ hlen
    refine vcC_soundIn htab body hrb t.own (hr.tr ap t) (Apart.tr hr ap t) (fun ρ2 ds2 h2 W' hN s => ?_) (fun _ _ _ _ _ hX _ => False.elim hX) (fun ρ2 ds2 h2 W' hN s => ?_) (hbody pre x ρ' h' hi h1)
    · obtain ⟨e, hi2⟩ := hN
      have tt := t.trans (s.ent e)
      exact ⟨Tr.keepsFrom own t h3 s, fun _ => (hr.tr ap tt).rh tt.own, hi2, tt⟩
    · obtain ⟨hS, e, hn, hs⟩ := hN
      exact ⟨Tr.keepsFrom own t h3 s, rfl, hS, hn, hs, t.trans (s.ent e)⟩
  · rintro D ys W hD rfl ⟨hi, t⟩ hk
    exact ⟨ρ, collD D :: ds, _, rfl, t.join own (Near.refl h) hD hk (fun _ _ _ e => by cases e), rfl, hi, D, rfl, rfl⟩
  · rintro D c pre W hD hp ⟨rfl, hS, hn, hs, t⟩ hk
    exact wpIn_ret ⟨ρ, collD D :: ds, _, rfl, t.join own hn hD hk (fun _ _ _ e => by cases e), rfl, pre, hS, D, hp, hs, rfl, rfl⟩

/-! ### an iterator that only reads: its rounds -/
abbrev KontI (α : Type) := List Value → List α → Bool → Prop

def noRd : Rd := fun _ _ => False
def itR (R : Rd) (b : Bool) : Rd := match b with
  | true => R
  | false => noRd

def itOps (P : Program) (tab : Tab) (R : Rd) {α : Type} (enc : α → List Value) (lp N : Nat) (K : KontI α) : List Oper → KontI α
  | [] => K
  | o :: r => fun ρ pre b => o.guard = .none ∧ (match o.op with
      | .call { callee := .value f, args, .. } => evK ρ f fun fv => evsK ρ args.toList fun avs => (match fv with
        | .func (.yield l) first cap => l = lp ∧ first = #[] ∧ cap = #[] ∧ b = true ∧ ∃ x, avs = enc x ∧ pre.length < N ∧
            (putK o.dst (.bool true) ρ fun ρ' => itOps P tab R enc lp N K r ρ' (pre ++ [x]) true) ∧ (putK o.dst (.bool false) ρ fun ρ' => itOps P tab R enc lp N K r ρ' (pre ++ [x]) false)
        | _ => False)
      | op => opQ tab (itR R b) ρ (fun v => putK o.dst v ρ fun ρ' => itOps P tab R enc lp N K r ρ' pre b) op)

def itC (P : Program) (tab : Tab) (R : Rd) {α : Type} (enc : α → List Value) (lp N : Nat) : Code → KontI α → (Nat → KontI α) → KontI α → KontI α
  | .skip, K, _, _ => K
  | .region _ ops draw, K, _, _ => fun ρ pre b => (match draw with
    | false => itOps P tab R enc lp N K ops.toList ρ pre b
    | true => False)
  | .seq a b, K, X, Rt => itC P tab R enc lp N a (fun ρ' p' b' => itC P tab R enc lp N b K X Rt ρ' p' b') X Rt
  | .cond c a b, K, X, Rt => fun ρ pre fl => evK ρ c fun v => (match v with
    | .bool t => (t = true → itC P tab R enc lp N a K X Rt ρ pre fl) ∧ (t = false → itC P tab R enc lp N b K X Rt ρ pre fl)
    | _ => False)
  | .block id c, K, X, Rt => itC P tab R enc lp N c K (fun i => match Nat.beq i id with | true => K | false => X i) Rt
  | .exit id, _, X, _ => X id
  | .ret, _, _, Rt => Rt
  | .loop body, _, X, Rt => fun ρ pre fl => ∃ (M : List (Option Nat)) (S : List Nat) (β : Type) (inv : β → Prop) (fr : β → List Value) (pr : β → List α) (μ : β → Nat) (x0 : β), fl = true ∧ inv x0 ∧ agreeE ρ S (fr x0) ∧ pre = pr x0 ∧
      ∀ x, inv x → ∀ js : Nat → Value, mskK M js 0 ρ fun ρ1 => setsK S (fr x) ρ1 fun ρ2 =>
        itC P tab R enc lp N body (fun ρ' pre' fl' => fl' = true ∧ ∃ y, inv y ∧ μ y < μ x ∧ agreeE ρ' S (fr y) ∧ pre' = pr y ∧ mskK M (fun _ => undef) 0 ρ' fun l' => mskK M (fun _ => undef) 0 ρ fun l => l' = l) X Rt ρ2 (pr x) true
  | _, _, _, _ => fun _ _ _ => False

section iter
variable {P : Program} {tab : Tab} {R : Rd} {α : Type} {enc : α → List Value} {lp N m : Nat} {J Jx : List α → World → Prop}
/-- Where an iterator stands: 'pre' has come; the last round went on, or not. -/
def ItS (R : Rd) (J Jx : List α → World → Prop) (pre : List α) (b : Bool) (W : World) : Prop := match b with
  | true => J pre W ∧ RSat R W
  | false => Jx pre W
theorem ItS.rd {pre : List α} {b : Bool} {W : World} (h : ItS R J Jx pre b W) : RSat (itR R b) W := by
  cases b
  · intro a v hv; exact hv.elim
  · exact h.2

def RoundsOk (P : Program) (R : Rd) (enc : α → List Value) (lp N m : Nat) (J Jx : List α → World → Prop) : Prop :=
  ∀ pre x W, J pre W → pre.length < N → YieldAt Fence.wide m P lp (enc x).toArray W fun e W' => (e = .returned (.bool true) ∧ J (pre ++ [x]) W' ∧ (RSat R W → RSat R W')) ∨ (e = .returned (.bool false) ∧ Jx (pre ++ [x]) W')

theorem itOps_sound (htab : TabOk P tab) (hY : RoundsOk P R enc lp N m J Jx) {all : Array Oper} {K : KontI α} {Q : Exit → Act → World → Prop} {ds : List Deferred} : ∀ (l : List Oper) {ρ : List Value} {pre : List α} {b : Bool} {W : World}, ItS R J Jx pre b W →
    (∀ ρ' pre' b' W', K ρ' pre' b' → ItS R J Jx pre' b' W' → Q .normal (act ρ' ds) W') → itOps P tab R enc lp N K l ρ pre b → wpListIn Fence.wide (m + 1) P all Q l (act ρ ds) W
  | [], ρ, pre, b, W, hs, hn, hE => hn _ _ _ W hE hs
  | o :: r, ρ, pre, b, W, hs, hn, hE => by
    unfold itOps at hE
    obtain ⟨hg, hE⟩ := hE
    have hw : Region.wanted o (yielded all (act ρ ds).tmps) = true := by unfold Region.wanted; rw [hg]
    unfold wpListIn
    rw [if_pos hw]
    refine ⟨fun _ _ => trivial, ?_⟩
    rw [show (Fence.wide).round = .none from rfl, Oper.semAt_none, act_eval]
    obtain ⟨dst, op, type, pos, after, guard⟩ := o
    simp only at hE hg
    split at hE
    · rename_i f args ats
      rw [evK_eq, evsK_eq] at hE
      split at hE <;> first | exact hE.elim | skip
      rename_i l first cap hf
      obtain ⟨hl, rfl, rfl, rfl, x, hx, hlen, h1, h2⟩ := hE
      replace hl := hl.symm
      subst hl
      rw [putK_eq] at h1 h2
      obtain ⟨fn, tmps, assign, body, hy, hR⟩ := hY pre x W hs.1 hlen
      have hrun : (execOp (ev ρ) ⟨dst, .call { callee := .value f, args := args, argTypes := ats }, type, pos, after, guard⟩).run P W = .ok (.round lp fn tmps assign body) W := by
        have e : (args.map (ev ρ)) = (enc x).toArray := by
          rw [← hx]; apply Array.ext'; simp
        simp only [execOp, resolve, Deferred.ofValue, hf, invoke, Sem.run_bind, Sem.run_pure, Result.andThen_ok, e]
        first | exact hy | (simpa using hy)
      rw [hrun]
      refine ⟨fun h => by simp [Fence.wide] at h, hR.mono ?_⟩
      rintro e W' (⟨rfl, hJ, hk⟩ | ⟨rfl, hJ⟩)
      · show wpListIn _ _ _ _ _ _ _ _
        rw [act_putL]
        exact itOps_sound htab hY r (b := true) ⟨hJ, hk hs.2⟩ hn h1
      · show wpListIn _ _ _ _ _ _ _ _
        rw [act_putL]
        exact itOps_sound htab hY r (b := false) hJ hn h2
    · obtain ⟨v, hv, hE⟩ := opQ_sound (P := P) (o := ⟨dst, op, type, pos, after, guard⟩) htab hE
      rw [putK_eq] at hE
      rw [hv W hs.rd]
      show wpListIn _ _ _ _ _ _ _ _
      rw [act_putL]
      exact itOps_sound htab hY r hs hn hE

theorem itC_sound (htab : TabOk P tab) (hY : RoundsOk P R enc lp N m J Jx) {ds : List Deferred} (c : Code) : ∀ {K : KontI α} {X : Nat → KontI α} {Rt : KontI α} {ρ : List Value} {pre : List α} {b : Bool} {W : World} {Q : Exit → Act → World → Prop}, ItS R J Jx pre b W →
    (∀ ρ' pre' b' W', K ρ' pre' b' → ItS R J Jx pre' b' W' → Q .normal (act ρ' ds) W') → (∀ i ρ' pre' b' W', X i ρ' pre' b' → ItS R J Jx pre' b' W' → Q (.exit i) (act ρ' ds) W') → (∀ ρ' pre' b' W', Rt ρ' pre' b' → ItS R J Jx pre' b' W' → Q .ret (act ρ' ds) W') →
    itC P tab R enc lp N c K X Rt ρ pre b → c.wpIn Fence.wide (m + 1) P Q (act ρ ds) W := by
  induction c with
  | skip => intro K X Rt ρ pre b W Q hs hN hX hR hE; exact wpIn_skip (hN _ _ _ W hE hs)
  | exit id => intro K X Rt ρ pre b W Q hs hN hX hR hE; exact wpIn_exit (hX _ _ _ _ W hE hs)
  | ret => intro K X Rt ρ pre b W Q hs hN hX hR hE; exact wpIn_ret (hR _ _ _ W hE hs)
  | region id ops draw =>
    intro K X Rt ρ pre b W Q hs hN hX hR hE
    obtain ⟨l⟩ := ops
    unfold itC at hE
    cases draw with
    | false => exact wpIn_region_lit (itOps_sound htab hY l hs hN hE)
    | true => exact False.elim hE
  | seq a c iha ihb =>
    intro K X Rt ρ pre b W Q hs hN hX hR hE
    exact wpIn_seq (iha hs (fun ρ' p' b' W' hK hs' => ihb hs' hN hX hR hK) hX hR hE)
  | cond x a c iha ihb =>
    intro K X Rt ρ pre b W Q hs hN hX hR hE
    unfold itC at hE
    rw [evK_eq] at hE
    split at hE <;> first | exact hE.elim | skip
    rename_i t hx
    exact wpIn_cond_split (t := t) (by rw [act_eval]; exact hx) (fun ht => iha hs hN hX hR (hE.1 ht)) (fun ht => ihb hs hN hX hR (hE.2 ht))
  | block id c ih =>
    intro K X Rt ρ pre b W Q hs hN hX hR hE
    refine wpIn_block (ih hs hN (fun i ρ' p' b' W' hK hs' => ?_) hR hE)
    simp only [Exit.inBlock]
    by_cases hi : i = id
    · rw [if_pos hi]
      subst hi
      have hb : Nat.beq i i = true := Nat.beq_refl i
      rw [hb] at hK
      exact hN _ _ _ W' hK hs'
    · rw [if_neg hi]
      have hb : Nat.beq i id = false := by
        cases hb : Nat.beq i id
        · rfl
        · exact absurd (Nat.eq_of_beq_eq_true hb) hi
      rw [hb] at hK
      exact hX i _ _ _ W' hK hs'
  | loop body ih =>
    intro K X Rt ρ pre b W Q hs hN hX hR hE
    obtain ⟨M, S, β, inv, fr, pr, μ, x0, rfl, h0, hag, rfl, hround⟩ := hE
    have hasc : ascM M 0 ρ := (mskK_sound _ _ _ _ _ (hround x0 h0 (fun _ => undef))).1
    refine wpIn_loop_ghost (fun n a w' => ∃ x js, inv x ∧ μ x = n ∧ a = act (setsL S (fr x) (mskL M js ρ)) ds ∧ ItS R J Jx (pr x) true w') (μ x0) ⟨x0, valM M ρ, h0, rfl, ?_, hs⟩ ?_
    · rw [mskL_same M 0 ρ ρ hasc rfl, setsL_agree S _ ρ hag]
    · rintro n a w1 ⟨x, js, hx, rfl, rfl, ht⟩
      have hE := (mskK_sound _ _ _ _ _ (hround x hx js)).2
      rw [setsK_eq] at hE
      refine ih ht (fun ρ' p' b' W' hK hs' => ?_) hX hR hE
      obtain ⟨rfl, y, hy, hlt, hag', rfl, hmask⟩ := hK
      have hmask := (mskK_sound _ _ _ _ _ (mskK_sound _ _ _ _ _ hmask).2).2
      refine ⟨μ y, hlt, y, valM M ρ', hy, rfl, ?_, hs'⟩
      rw [mskL_same M 0 ρ ρ' hasc hmask, setsL_agree S _ ρ' hag']
  | _ => intro K X Rt ρ pre b W Q hs hN hX hR hE; exact False.elim hE
end iter

/-- THE ITERATOR'S CONTRACT OUT OF ITS FORMULA. -/
theorem seq_of_it {P : Program} {tab : Tab} (htab : TabOk P tab) {R : Rd} {α : Type} {enc : α → List Value} {xs : List α} {f : FuncId} {fn : Func} {c : Code} {lb : List Value} (hf : P.funcs[f]? = some fn) (hb : fn.body = some c) (hres : fn.results = #[]) (hl : lb.length + 1 ≤ fn.ntmps)
    (hvc : ∀ lp : Nat, iniK fn.ntmps (.func (.yield lp) #[] #[] :: lb) fun ρ => itC P tab R enc lp xs.length c (fun _ pre b => (b = true ∧ pre = xs) ∨ (b = false ∧ pre <+: xs)) (fun _ _ _ _ => False) (fun _ pre b => (b = true ∧ pre = xs) ∨ (b = false ∧ pre <+: xs)) ρ [] true) :
    ∀ w, RSat R w → SeqStopsK Fence.wide 3 P f lb.toArray (fun x => (enc x).toArray) (fun A B => RSat R A → RSat R B) (fun ys => ys = xs) (fun pre => pre <+: xs) xs.length w := by
  intro w hr lp J Jx W hB _ _ hY hJ
  have hvc := hvc lp
  rw [iniK_eq _ _ _ (by simpa using hl)] at hvc
  have hrW : RSat R W := fun a v hv => by
    rw [← hr a v hv]
    exact World.cell?_of_block (hB.block a.block (cell_lt (hr a v hv)))
  refine callsIn_of_wp hf hb trivial ?_
  have e : ((#[Value.func (.yield lp) #[] #[]] ++ lb.toArray) ++ Array.replicate (fn.ntmps - (#[Value.func (.yield lp) #[] #[]] ++ lb.toArray).size) undef) = ((.func (.yield lp) #[] #[] :: lb) ++ List.replicate (fn.ntmps - (Value.func (.yield lp) #[] #[] :: lb).length) undef).toArray := by
    apply Array.ext'; simp
  rw [e]
  have fin : ∀ (ρ' : List Value) (pre : List α) (b : Bool) (W' : World), ((b = true ∧ pre = xs) ∨ (b = false ∧ pre <+: xs)) → ItS R J Jx pre b W' →
      ∃ v, (results fn ρ'.toArray).run P W' = .ok v W' ∧ ((∃ u, Ending.returned v = .returned u) ∧ ((∃ ys, ys = xs ∧ J ys W') ∨ (∃ pre, pre <+: xs ∧ Jx pre W'))) := by
    intro ρ' pre b W' hp hs
    refine ⟨.tuple #[], by simp [results, hres], ⟨_, rfl⟩, ?_⟩
    rcases hp with ⟨rfl, rfl⟩ | ⟨rfl, hp⟩
    · exact .inl ⟨_, rfl, hs.1⟩
    · exact .inr ⟨pre, hp, hs⟩
  refine itC_sound (m := 2) (lp := lp) (J := J) (Jx := Jx) htab (fun pre x W1 h1 h2 => hY pre x W1 h1 h2) c (b := true) ⟨hJ, hrW⟩ (fun ρ' pre b W' hK hs => ?_) (fun _ _ _ _ _ hX _ => False.elim hX) (fun ρ' pre b W' hK hs => ?_) hvc
  · exact ⟨rfl, fin ρ' pre b W' hK hs⟩
  · exact ⟨rfl, fin ρ' pre b W' hK hs⟩

end Go.Proofs.YtbgfnofjnbpdgaaDoor
