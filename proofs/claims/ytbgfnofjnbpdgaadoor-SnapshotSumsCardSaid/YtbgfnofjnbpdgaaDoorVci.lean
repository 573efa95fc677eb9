/-
  Regions: in the order of the text; and in whatever order is drawn.
-/
import Derived.Test.YtbgfnofjnbpdgaaDoorVch
import Derived.Still
import Derived.Deep.LoopGhost
namespace Go.Proofs.YtbgfnofjnbpdgaaDoor
open Go Go.RowKit

abbrev Kont := List Value → List Deferred → Hp → Prop

def putK (d : Option Tmp) (v : Value) (ρ : List Value) (K : List Value → Prop) : Prop :=
  match d with
  | some d => stK ρ d v K
  | .none => K ρ
def putL (d : Option Tmp) (v : Value) (ρ : List Value) : List Value :=
  match d with
  | some d => ρ.set d v
  | .none => ρ
theorem putK_eq (d : Option Tmp) (v : Value) (ρ : List Value) (K : List Value → Prop) : putK d v ρ K = K (putL d v ρ) := by
  cases d <;> simp [putK, putL, stK_eq]
theorem act_putL (ρ : List Value) (ds : List Deferred) (d : Option Tmp) (v : Value) : (act ρ ds).put d v = act (putL d v ρ) ds := by
  cases d
  · rfl
  · exact act_put _ _ _ _

def nthO : List Oper → Nat → Option Oper
  | [], _ => .none
  | o :: _, 0 => some o
  | _ :: r, n + 1 => nthO r n
theorem nthO_eq : ∀ (l : List Oper) (n : Nat), nthO l n = l[n]?
  | [], _ => rfl
  | _ :: _, 0 => rfl
  | _ :: r, n + 1 => by simp [nthO, nthO_eq r n]

/-- Is the operation to be carried out? -/
def guardK (all : List Oper) (o : Oper) (ρ : List Value) (yes no : Prop) : Prop :=
  match o.guard with
  | .none => yes
  | some (j, want) => (match nthO all j with
    | some oj => (match oj.dst with
      | some t => gtK (fun v => match v with
        | .bool b => (match want with | true => (b = true → yes) ∧ (b = false → no) | false => (b = false → yes) ∧ (b = true → no))
        | _ => no) ρ t
      | .none => no)
    | .none => no)

theorem guardK_sound {all : List Oper} {o : Oper} {ρ : List Value} {yes no : Prop} (h : guardK all o ρ yes no) :
    (Region.wanted o (yielded all.toArray ρ.toArray) = true ∧ yes) ∨ (Region.wanted o (yielded all.toArray ρ.toArray) = false ∧ no) := by
  unfold guardK at h
  unfold Region.wanted
  split at h
  · rename_i hg; rw [hg]; exact .inl ⟨rfl, h⟩
  · rename_i j want hg
    rw [hg]
    simp only
    have hy : yielded all.toArray ρ.toArray j = (match (nthO all j).bind (·.dst) with | some t => (match ρ[t]? with | some (.bool b) => some b | _ => .none) | .none => .none) := by
      unfold yielded
      rw [nthO_eq]
      simp only [List.getElem?_toArray]
      cases (all[j]?).bind (·.dst) with
      | none => rfl
      | some t =>
        simp only [Option.bind_some]
        cases ρ[t]? with
        | none => rfl
        | some v => cases v <;> rfl
    rw [hy]
    split at h
    · rename_i oj hj
      rw [hj]
      simp only [Option.bind_some]
      split at h
      · rename_i t ht
        rw [gtK_eq] at h
        have hgt : gt ρ t = ρ.getD t undef := by rw [← gt_eq]; simp
        cases hρ : ρ[t]? with
        | none =>
          have : gt ρ t = undef := by rw [hgt]; simp [List.getD, hρ]
          rw [this] at h
          exact .inr ⟨by simp, h⟩
        | some v =>
          have : gt ρ t = v := by rw [hgt]; simp [List.getD, hρ]
          rw [this] at h
          cases v with
          | bool b =>
            simp only at h
            cases want <;> cases b <;> simp at h ⊢ <;> exact h
          | _ => exact .inr ⟨by simp, h⟩
      · exact .inr ⟨by simp, h⟩
    · rename_i hj; rw [hj]; exact .inr ⟨by simp, h⟩

/-- One operation of a region. -/
def vcOp (P : Program) (tab : Tab) (R : Rd) (all : List Oper) (o : Oper) (ρ : List Value) (ds : List Deferred) (h : Hp) (K : Kont) : Prop :=
  guardK all o ρ
    (match o.op with
      | .defer { callee := .value f, args, .. } => evK ρ f fun fv => evsK ρ args.toList fun avs => (match fv with
        | .func fn first cap => apVK avs (fun l => putK o.dst undef ρ fun ρ' => K ρ' ({ target := .fn fn cap, args := ⟨l⟩ } :: ds) h) first.toList
        | _ => False)
      | op => opE P tab R ρ h (fun v h' => putK o.dst v ρ fun ρ' => K ρ' ds h') op)
    (putK o.dst undef ρ fun ρ' => K ρ' ds h)

theorem vcOp_sound {P : Program} {tab : Tab} (htab : TabOk P tab) {R : Rd} {all : List Oper} {o : Oper} {ρ : List Value} {ds : List Deferred} {h : Hp} {w : World} {K : Kont} {next : Act → World → Prop} {Q : Exit → Act → World → Prop} (own : Own h w) (hr : RSat R w) (ap : Apart R h)
    (hn : ∀ ρ' ds' h' w', K ρ' ds' h' → Tr w h w' h' → next (act ρ' ds') w') (hE : vcOp P tab R all o ρ ds h K) :
    if Region.wanted o (yielded all.toArray (act ρ ds).tmps) then o.wp P (act ρ ds) w next Q else next ((act ρ ds).put o.dst undef) w := by
  unfold vcOp at hE
  rcases guardK_sound hE with ⟨hw, hE⟩ | ⟨hw, hE⟩
  · rw [if_pos hw]
    split at hE
    · rename_i f args ats hop
      rw [evK_eq, evsK_eq] at hE
      split at hE <;> first | exact hE.elim | skip
      rename_i fn first cap hf
      rw [apVK_eq, putK_eq] at hE
      unfold Oper.wp
      rw [act_eval]
      have hrun : (execOp (ev ρ) o).run P w = .ok (.defer { target := .fn fn cap, args := ⟨first.toList ++ args.toList.map (ev ρ)⟩ }) w := by
        unfold execOp
        simp only [hop, resolve, Deferred.ofValue, hf, Sem.run_bind, Sem.run_pure, Result.andThen_ok]
        congr 4
        apply Array.ext'; simp
      rw [hrun, Oper.upon_defer]
      have := hn _ _ _ w hE (Tr.refl own)
      rw [← act_putL] at this
      exact this
    · refine opE_sound htab own hr ap (fun v h' w' hK ht => ?_) hE
      rw [act_putL]
      rw [putK_eq] at hK
      exact hn _ _ _ w' hK ht
  · rw [if_neg (by rw [show (act ρ ds).tmps = ρ.toArray from rfl, hw]; simp), act_putL]
    rw [putK_eq] at hE
    exact hn _ _ _ w hE (Tr.refl own)

def vcOps (P : Program) (tab : Tab) (R : Rd) (all : List Oper) (K : Kont) : List Oper → Kont
  | [] => K
  | o :: r => fun ρ ds h => vcOp P tab R all o ρ ds h fun ρ' ds' h' => vcOps P tab R all K r ρ' ds' h'

theorem vcOps_sound {P : Program} {tab : Tab} (htab : TabOk P tab) {R : Rd} {all : List Oper} {K : Kont} {Q : Exit → Act → World → Prop} : ∀ (l : List Oper) {ρ : List Value} {ds : List Deferred} {h : Hp} {w : World}, Own h w → RSat R w → Apart R h →
    (∀ ρ' ds' h' w', K ρ' ds' h' → Tr w h w' h' → Q .normal (act ρ' ds') w') → vcOps P tab R all K l ρ ds h → wpList P all.toArray Q l (act ρ ds) w
  | [], ρ, ds, h, w, own, _, _, hn, hE => hn _ _ _ w hE (Tr.refl own)
  | o :: r, ρ, ds, h, w, own, hr, ap, hn, hE => by
    have := vcOp_sound (Q := Q) (next := wpList P all.toArray Q r) htab own hr ap (fun ρ' ds' h' w' hK ht =>
      vcOps_sound htab r ht.own (hr.tr ap ht) (Apart.tr hr ap ht) (fun ρ2 ds2 h2 w2 hK2 ht2 => hn _ _ _ w2 hK2 (ht.trans ht2)) hK) hE
    unfold wpList
    split
    · rename_i hw; rw [if_pos hw] at this; exact .inl this
    · rename_i hw; rw [if_neg hw] at this; exact this

/-! ### a region whose order is drawn -/
/-- The order in which the operations are looked at: 'q': one that leaves the world alone and may be taken first; 'one': the only one that is ready; 'two': two that are ready. -/
inductive OT where
  | nil
  | q (i : Nat) (t : OT)
  | one (i : Nat) (t : OT)
  | two (i : Nat) (s : OT) (j : Nat) (t : OT)
  | fin (i : Nat)

/-- The operation comes behind all others. -/
def isLast (ops : Array Oper) (i : Nat) : Bool :=
  match ops[i]? with
  | some o => (List.range ops.size).all fun k => k == i || o.after.toList.any fun e => e.on == k && Region.binds .any e
  | .none => false

def chkT (ops : Array Oper) : Nat → OT → Array Bool → Bool
  | 0, .nil, L => (Region.ready .any ops L).isEmpty
  | 1, .fin i, L => (Region.ready .any ops L == [i]) && isLast ops i && (Region.ready .any ops (L.setIfInBounds i true)).isEmpty
  | n + 1, .q i t, L => (Region.ready .any ops L).contains i && Region.free .any ops L i && chkT ops n t (L.setIfInBounds i true)
  | n + 1, .one i t, L => (Region.ready .any ops L == [i]) && chkT ops n t (L.setIfInBounds i true)
  | n + 1, .two i s j t, L => (Region.ready .any ops L == [i, j]) && chkT ops n s (L.setIfInBounds i true) && chkT ops n t (L.setIfInBounds j true)
  | _, _, _ => false

def endB (k : Nat) : OT → Bool
  | .nil => Nat.beq k 0
  | .fin _ => Nat.beq k 1
  | .q _ t => endB k t
  | .one _ t => endB k t
  | .two _ s _ t => endB k s && endB k t
def chkR (ops : Array Oper) (t : OT) : Bool := Region.noSelect ops && chkT ops ops.size t (Array.replicate ops.size false) && (endB 0 t || (endB 1 t && Nat.blt 0 ops.size))

def vcT (P : Program) (tab : Tab) (R : Rd) (all : List Oper) (K : Kont) (KF : Oper → Kont) : OT → Kont
  | .nil => K
  | .fin i => fun ρ ds h => (match nthO all i with
    | some o => KF o ρ ds h
    | .none => False)
  | .q i t => fun ρ ds h => (match nthO all i with
    | some o => guardK all o ρ (opQ tab R ρ (fun v => putK o.dst v ρ fun ρ' => vcT P tab R all K KF t ρ' ds h) o.op) (putK o.dst undef ρ fun ρ' => vcT P tab R all K KF t ρ' ds h)
    | .none => False)
  | .one i t => fun ρ ds h => (match nthO all i with
    | some o => vcOp P tab R all o ρ ds h fun ρ' ds' h' => vcT P tab R all K KF t ρ' ds' h'
    | .none => False)
  | .two i s j t => fun ρ ds h => (match nthO all i, nthO all j with
    | some o, some u => vcOp P tab R all o ρ ds h (fun ρ' ds' h' => vcT P tab R all K KF s ρ' ds' h') ∧ vcOp P tab R all u ρ ds h (fun ρ' ds' h' => vcT P tab R all K KF t ρ' ds' h')
    | _, _ => False)

/-- Whatever order is picked, in a world of the class at every stage; 'T': what holds when all but the last operation are done. -/
def anyC (P : Program) (ops : Array Oper) (C : World → Prop) (Q : Exit → Act → World → Prop) (T : Array Bool → Act → World → Prop) : Nat → Array Bool → Act → World → Prop
  | 0, listed, a, w => C w ∧ T listed a w
  | fuel + 1, listed, a, w => C w ∧ (Region.ready .any ops listed = [] → Q .normal a w) ∧
    ∀ i ∈ Region.ready .any ops listed, wpOp P ops Q i (anyC P ops C Q T fuel (listed.setIfInBounds i true)) a w

theorem anyC.cls {P : Program} {ops : Array Oper} {C : World → Prop} {Q : Exit → Act → World → Prop} {T : Array Bool → Act → World → Prop} {n : Nat} {L : Array Bool} {a : Act} {w : World} (h : anyC P ops C Q T n L a w) : C w := by
  cases n <;> exact h.1

theorem anyC_any {P : Program} {ops : Array Oper} {C : World → Prop} {Q : Exit → Act → World → Prop} {T : Array Bool → Act → World → Prop} {k : Nat} (hT : ∀ L a w, T L a w → wpAny P .any ops Q k L a w) : ∀ (n : Nat) (L : Array Bool) (a : Act) (w : World), anyC P ops C Q T n L a w → wpAny P .any ops Q (n + k) L a w
  | 0, _, _, _, h => by rw [Nat.zero_add]; exact hT _ _ _ h.2
  | n + 1, _, _, _, h => by
    rw [show n + 1 + k = (n + k) + 1 by omega]
    exact ⟨h.2.1, fun i hi => wpOp_mono (fun a w => anyC_any hT n _ a w) (h.2.2 i hi)⟩

theorem wpOp_put' {P : Program} {ops : Array Oper} {Q : Exit → Act → World → Prop} {j : Nat} {oi oj : Oper} {v : Value} (hj : ops[j]? = some oj) (hap : oi.apart ops oj = true)
    (hsj : ∀ cs b, oj.op ≠ .select cs b) (hQ : ∀ c a w, ¬ Q (.panic c) a w) (hO : ¬ LetsOut Q) {Y : Act → Prop} (keep : ∀ a, Y a → ∀ u, Y (a.put oj.dst u)) (keepD : ∀ a d, Y a → Y { a with defers := d :: a.defers })
    {K : Act → World → Prop} {a : Act} {w : World} (hy : Y a) (h : wpOp P ops Q j K (a.put oi.dst v) w) :
    wpOp P ops Q j (fun a' w' => Y a' ∧ K (a'.put oi.dst v) w') a w := by
  obtain ⟨h1, h2, h3⟩ := Oper.apart_spec hap
  unfold wpOp at *
  simp only [hj] at *
  rw [wanted_put oj a oi.dst v h1] at h
  split
  · rename_i hw
    simp only [hw, if_true] at h
    rcases h with h | ⟨_, hl⟩
    case inr => exact absurd hl hO
    refine .inl ?_
    unfold Oper.wp at *
    rw [execOp_put oj hsj a oi.dst v h1] at h
    generalize (execOp a.eval oj).run P w = r at *
    cases r with
    | ok n w' =>
      cases n <;> simp only [Oper.upon] at h ⊢
      case value u => exact ⟨keep a hy u, by rw [← Act.put_comm a v u h2]; exact h⟩
      case skip => exact ⟨keep a hy undef, by rw [← Act.put_comm a v undef h2]; exact h⟩
      case defer d =>
        refine ⟨keep _ (keepD a d hy) undef, ?_⟩
        rw [Act.put_defers] at h
        rw [← Act.put_comm _ v undef h2]; exact h
      case enter f args =>
        refine Calls.mono h fun e w'' he => ?_
        cases e with
        | returned u => exact ⟨keep a hy u, by rw [← Act.put_comm a v u h2]; exact he⟩
        | panicked c => exact absurd he (hQ _ _ _)
        | outgrown => exact he
      case row r args => exact Rows.mono h fun u w'' he => ⟨keep a hy u, by rw [← Act.put_comm a v u h2]; exact he⟩
    | halt x w' =>
      cases x <;> simp only [Oper.upon] at h ⊢
      exact absurd h (hQ _ _ _)
  · rename_i hw
    simp only [hw] at h
    exact ⟨keep a hy _, by rw [← Act.put_comm a v undef h2]; exact h⟩

/-- The operation yields 'v' in every world of the class, or is not carried out. -/
def YV (P : Program) (ops : Array Oper) (C : World → Prop) (o : Oper) (v : Value) (a : Act) : Prop :=
  (Region.wanted o (yielded ops a.tmps) = true ∧ ∀ w, C w → (execOp a.eval o).run P w = .ok (.value v) w) ∨
  (Region.wanted o (yielded ops a.tmps) = false ∧ v = undef)

theorem YV.of_same {P : Program} {ops : Array Oper} {C : World → Prop} {o : Oper} {v : Value} {a a' : Act} (hy : YV P ops C o v a) (he : execOp a'.eval o = execOp a.eval o)
    (hw : Region.wanted o (yielded ops a'.tmps) = Region.wanted o (yielded ops a.tmps)) : YV P ops C o v a' := by
  unfold YV at *
  rw [he, hw]
  exact hy

theorem YV.op {P : Program} {ops : Array Oper} {C : World → Prop} {Q : Exit → Act → World → Prop} {i : Nat} {o : Oper} {v : Value} {a : Act} {w : World} {K : Act → World → Prop} (hi : ops[i]? = some o) (hy : YV P ops C o v a) (hC : C w) (hK : K (a.put o.dst v) w) : wpOp P ops Q i K a w := by
  unfold wpOp
  simp only [hi]
  rcases hy with ⟨hw, hv⟩ | ⟨hw, rfl⟩
  · simp only [hw, if_true]
    refine .inl ?_
    unfold Oper.wp
    rw [hv w hC]
    exact hK
  · simp only [hw, Bool.false_eq_true, if_false]; exact hK

theorem anyC_first {P : Program} {ops : Array Oper} {C : World → Prop} {Q : Exit → Act → World → Prop} {T : Array Bool → Act → World → Prop} (hT : ∀ L a w, T L a w → ∀ j ∈ Region.ready .any ops L, ∀ L', j ∈ Region.ready .any ops L' → ∀ i ∈ Region.ready .any ops L', i = j) {i : Nat} {oi : Oper} {v : Value} (hi : ops[i]? = some oi) (hsel : ∀ (j : Nat) (o : Oper) cs b, ops[j]? = some o → o.op ≠ .select cs b) (hQ : ∀ c a w, ¬ Q (.panic c) a w) (hO : ¬ LetsOut Q) :
    ∀ (fuel : Nat) (listed : Array Bool) (a : Act) (w : World),
      (∀ j oj, ops[j]? = some oj → j ≠ i → listed.getD j true = false → (∀ e ∈ oj.after, Region.binds .any e = true → e.on ≠ i) → oi.apart ops oj = true) →
      i ∈ Region.ready .any ops listed → YV P ops C oi v a →
      anyC P ops C Q T fuel (listed.setIfInBounds i true) (a.put oi.dst v) w → anyC P ops C Q T (fuel + 1) listed a w := by
  intro fuel
  induction fuel with
  | zero =>
    intro listed a w _ hr hy H
    refine ⟨H.1, fun h => (by rw [h] at hr; cases hr), fun j hj => ?_⟩
    by_cases hji : j = i
    · subst hji; exact hy.op hi H.1 H
    · exact absurd (hT _ _ _ H.2 j (ready_mono hj hji) _ hj i hr).symm hji
  | succ fuel ih =>
    intro listed a w hfree hr hy H
    refine ⟨H.1, fun h => (by rw [h] at hr; cases hr), fun j hj => ?_⟩
    by_cases hji : j = i
    · subst hji; exact hy.op hi H.1 H
    · have h1 := H.2.2 j (ready_mono hj hji)
      obtain ⟨hjun, oj, hoj, hall⟩ := mem_ready.1 hj
      have hnot : ∀ e ∈ oj.after, Region.binds .any e = true → e.on ≠ i := fun e he hb heq => by
        have h1 := hall e he hb
        have h0 := (mem_ready.1 hr).1
        rw [heq] at h1
        rcases Nat.lt_or_ge i listed.size with h' | h'
        · simp [h'] at h0 h1; rw [h0] at h1; cases h1
        · simp [Array.getElem?_eq_none h'] at h1
      have hap := hfree j oj hoj hji hjun hnot
      obtain ⟨_, _, a3⟩ := Oper.apart_spec hap
      have h2 := wpOp_put' (Y := YV P ops C oi v) hoj hap (fun cs b => hsel j oj cs b hoj) hQ hO
        (fun a hy u => hy.of_same (execOp_put oi (fun cs b => hsel i oi cs b hi) a oj.dst u a3) (wanted_put oi a oj.dst u a3)) (fun a d hy => hy.of_same rfl rfl) hy h1
      have hfree' : ∀ k ok, ops[k]? = some ok → k ≠ i → (listed.setIfInBounds j true).getD k true = false →
          (∀ e ∈ ok.after, Region.binds .any e = true → e.on ≠ i) → oi.apart ops ok = true := fun k ok hk hki hun hno => by
        refine hfree k ok hk hki ?_ hno
        by_cases hjk : j = k
        · subst hjk; exact hjun
        · rw [getD_set_ne true hjk] at hun; exact hun
      refine wpOp_mono (fun a' w' h3 => ih (listed.setIfInBounds j true) a' w' hfree' (ready_mono hr (Ne.symm hji)) h3.1 ?_) h2
      rw [Array.setIfInBounds_comm _ _ hji]
      exact h3.2

theorem vcOp_wpOp {P : Program} {tab : Tab} (htab : TabOk P tab) {R : Rd} {all : List Oper} {i : Nat} {o : Oper} {ρ : List Value} {ds : List Deferred} {h : Hp} {w : World} {K : Kont} {next : Act → World → Prop} {Q : Exit → Act → World → Prop} (own : Own h w) (hr : RSat R w) (ap : Apart R h) (hi : nthO all i = some o)
    (hn : ∀ ρ' ds' h' w', K ρ' ds' h' → Tr w h w' h' → next (act ρ' ds') w') (hE : vcOp P tab R all o ρ ds h K) : wpOp P all.toArray Q i next (act ρ ds) w := by
  have := vcOp_sound (Q := Q) htab own hr ap hn hE
  unfold wpOp
  rw [nthO_eq] at hi
  simp only [List.getElem?_toArray, hi]
  split
  · rename_i hw; rw [if_pos hw] at this; exact .inl this
  · rename_i hw; rw [if_neg hw] at this; exact this

theorem chkT_zero {ops : Array Oper} {t : OT} {L : Array Bool} (h : chkT ops 0 t L = true) : t = .nil := by
  cases t <;> simp [chkT] at h ⊢

theorem vcT_sound {P : Program} {tab : Tab} (htab : TabOk P tab) {R : Rd} {all : List Oper} (hsel : Region.noSelect all.toArray = true) {K : Kont} {KF : Oper → Kont} {Q : Exit → Act → World → Prop} {T : Array Bool → Act → World → Prop}
    (hT : ∀ L a w, T L a w → ∀ j ∈ Region.ready .any all.toArray L, ∀ L', j ∈ Region.ready .any all.toArray L' → ∀ i ∈ Region.ready .any all.toArray L', i = j) (hQ : ∀ c a w, ¬ Q (.panic c) a w) (hO : ¬ LetsOut Q) {k : Nat} (hk : k = 0 ∨ k = 1) : ∀ (n : Nat) (t : OT) (L : Array Bool) {ρ : List Value} {ds : List Deferred} {h : Hp} {w : World},
    endB k t = true → chkT all.toArray (n + k) t L = true → Own h w → RSat R w → Apart R h →
    (∀ L ρ' ds' h' w', k = 0 → Region.ready .any all.toArray L = [] → K ρ' ds' h' → Tr w h w' h' → T L (act ρ' ds') w') →
    (∀ L i o ρ' ds' h' w', k = 1 → nthO all i = some o → Region.ready .any all.toArray L = [i] → isLast all.toArray i = true → Region.ready .any all.toArray (L.setIfInBounds i true) = [] → KF o ρ' ds' h' → Tr w h w' h' → T L (act ρ' ds') w') →
    vcT P tab R all K KF t ρ ds h → anyC P all.toArray (RSat R) Q T n L (act ρ ds) w := by
  intro n
  induction n with
  | zero =>
    intro t L ρ ds h w he hc own hr ap hn hf hE
    rcases hk with rfl | rfl
    · obtain rfl := chkT_zero hc
      refine ⟨hr, hn _ _ _ _ w rfl ?_ hE (Tr.refl own)⟩
      simpa [chkT] using hc
    · cases t with
      | nil => simp [endB] at he
      | q i t => simp only [Nat.zero_add, chkT, Bool.and_eq_true] at hc; obtain rfl := chkT_zero hc.2; simp [endB] at he
      | one i t => simp only [Nat.zero_add, chkT, Bool.and_eq_true] at hc; obtain rfl := chkT_zero hc.2; simp [endB] at he
      | two i s j t => simp only [Nat.zero_add, chkT, Bool.and_eq_true] at hc; obtain rfl := chkT_zero hc.2; simp [endB] at he
      | fin i =>
        simp only [Nat.zero_add, chkT, Bool.and_eq_true, beq_iff_eq, List.isEmpty_iff] at hc
        unfold vcT at hE
        split at hE <;> first | exact hE.elim | skip
        rename_i o ho
        exact ⟨hr, hf _ i o _ _ _ w rfl ho hc.1.1 hc.1.2 hc.2 hE (Tr.refl own)⟩
  | succ n ih =>
    intro t L ρ ds h w he hc own hr ap hn hf hE
    rw [show n + 1 + k = (n + k) + 1 by omega] at hc
    cases t with
    | nil => simp [chkT] at hc
    | fin i =>
      have hk1 : k = 1 := Nat.eq_of_beq_eq_true he
      subst hk1
      simp [chkT] at hc
    | q i t =>
      simp only [chkT, Bool.and_eq_true] at hc
      obtain ⟨⟨h1, h2⟩, h3⟩ := hc
      unfold vcT at hE
      split at hE <;> first | exact hE.elim | skip
      rename_i o ho
      have hi : all.toArray[i]? = some o := by rw [nthO_eq] at ho; simpa using ho
      have hready : i ∈ Region.ready .any all.toArray L := by simpa using h1
      rcases guardK_sound hE with ⟨hw, hE⟩ | ⟨hw, hE⟩
      · obtain ⟨v, hv, hE⟩ := opQ_sound (P := P) htab hE
        rw [putK_eq] at hE
        refine anyC_first hT hi (Region.noSelect_spec hsel) hQ hO n L _ w (Region.free_spec hi h2) hready (.inl ⟨hw, fun w' hw' => ?_⟩) ?_ (v := v)
        · rw [act_eval]; exact hv w' hw'
        · rw [act_putL]; exact ih t _ he h3 own hr ap hn hf hE
      · rw [putK_eq] at hE
        refine anyC_first hT hi (Region.noSelect_spec hsel) hQ hO n L _ w (Region.free_spec hi h2) hready (.inr ⟨hw, rfl⟩) ?_
        rw [act_putL]; exact ih t _ he h3 own hr ap hn hf hE
    | one i t =>
      simp only [chkT, Bool.and_eq_true, beq_iff_eq] at hc
      obtain ⟨h1, h3⟩ := hc
      unfold vcT at hE
      split at hE <;> first | exact hE.elim | skip
      rename_i o ho
      refine ⟨hr, (fun h0 => by rw [h0] at h1; cases h1), fun j hj => ?_⟩
      rw [h1] at hj
      obtain rfl := List.mem_singleton.1 hj
      exact vcOp_wpOp htab own hr ap ho (fun ρ' ds' h' w' hK ht => ih t _ he h3 ht.own (hr.tr ap ht) (Apart.tr hr ap ht) (fun L ρ2 ds2 h2 w2 e1 e2 hK2 ht2 => hn L _ _ _ w2 e1 e2 hK2 (ht.trans ht2)) (fun L i2 o2 ρ2 ds2 h2 w2 e1 e2 e3 e4 e5 hK2 ht2 => hf L i2 o2 _ _ _ w2 e1 e2 e3 e4 e5 hK2 (ht.trans ht2)) hK) hE
    | two i s j t =>
      simp only [chkT, Bool.and_eq_true, beq_iff_eq] at hc
      obtain ⟨⟨h1, h2⟩, h3⟩ := hc
      simp only [endB, Bool.and_eq_true] at he
      unfold vcT at hE
      split at hE <;> first | exact hE.elim | skip
      rename_i o u ho hu
      refine ⟨hr, (fun h0 => by rw [h0] at h1; cases h1), fun m hm => ?_⟩
      rw [h1] at hm
      rcases List.mem_cons.1 hm with rfl | hm
      · exact vcOp_wpOp htab own hr ap ho (fun ρ' ds' h' w' hK ht => ih s _ he.1 h2 ht.own (hr.tr ap ht) (Apart.tr hr ap ht) (fun L ρ2 ds2 h2 w2 e1 e2 hK2 ht2 => hn L _ _ _ w2 e1 e2 hK2 (ht.trans ht2)) (fun L i2 o2 ρ2 ds2 h2 w2 e1 e2 e3 e4 e5 hK2 ht2 => hf L i2 o2 _ _ _ w2 e1 e2 e3 e4 e5 hK2 (ht.trans ht2)) hK) hE.1
      · obtain rfl := List.mem_singleton.1 hm
        exact vcOp_wpOp htab own hr ap hu (fun ρ' ds' h' w' hK ht => ih t _ he.2 h3 ht.own (hr.tr ap ht) (Apart.tr hr ap ht) (fun L ρ2 ds2 h2 w2 e1 e2 hK2 ht2 => hn L _ _ _ w2 e1 e2 hK2 (ht.trans ht2)) (fun L i2 o2 ρ2 ds2 h2 w2 e1 e2 e3 e4 e5 hK2 ht2 => hf L i2 o2 _ _ _ w2 e1 e2 e3 e4 e5 hK2 (ht.trans ht2)) hK) hE.2

theorem isLast_spec {ops : Array Oper} {i : Nat} (h : isLast ops i = true) {L : Array Bool} (hr : i ∈ Region.ready .any ops L) : ∀ j ∈ Region.ready .any ops L, j = i := by
  intro j hj
  obtain ⟨hjun, oj, hoj, _⟩ := mem_ready.1 hj
  obtain ⟨_, oi, hoi, hall⟩ := mem_ready.1 hr
  unfold isLast at h
  rw [hoi] at h
  simp only [List.all_eq_true, List.mem_range, Bool.or_eq_true, beq_iff_eq, List.any_eq_true, Bool.and_eq_true] at h
  have hlt : j < ops.size := (Array.getElem?_eq_some_iff.1 hoj).1
  rcases h j hlt with h | ⟨e, he, ⟨h1, h2⟩⟩
  · exact h
  · have h3 := hall e (by simpa using he) h2
    rw [h1] at h3
    rcases Nat.lt_or_ge j L.size with h' | h'
    · simp [h'] at hjun h3; rw [hjun] at h3; cases h3
    · simp [Array.getElem?_eq_none h'] at h3

def onlyNormal (Q : Exit → Act → World → Prop) : Exit → Act → World → Prop
  | .normal, a, w => Q .normal a w
  | _, _, _ => False

def nilT (ops : Array Oper) (Q : Exit → Act → World → Prop) (L : Array Bool) (a : Act) (w : World) : Prop := Region.ready .any ops L = [] ∧ Q .normal a w
def finT (P : Program) (ops : Array Oper) (Q : Exit → Act → World → Prop) (L : Array Bool) (a : Act) (w : World) : Prop :=
  ∃ i, Region.ready .any ops L = [i] ∧ isLast ops i = true ∧ Region.ready .any ops (L.setIfInBounds i true) = [] ∧ wpOp P ops (onlyNormal Q) i (Q .normal) a w
theorem finT_any {P : Program} {ops : Array Oper} {Q : Exit → Act → World → Prop} (L : Array Bool) (a : Act) (w : World) (h : finT P ops Q L a w) : wpAny P .any ops (onlyNormal Q) 1 L a w := by
  obtain ⟨i, h1, h2, h3, h4⟩ := h
  refine ⟨fun h => (by rw [h] at h1; cases h1), fun j hj => ?_⟩
  rw [h1] at hj
  obtain rfl := List.mem_singleton.1 hj
  exact wpOp_mono (fun a w h => ⟨h3, h⟩) h4
theorem finT_last {P : Program} {ops : Array Oper} {Q : Exit → Act → World → Prop} (L : Array Bool) (a : Act) (w : World) (h : finT P ops Q L a w) : ∀ j ∈ Region.ready .any ops L, ∀ L', j ∈ Region.ready .any ops L' → ∀ i ∈ Region.ready .any ops L', i = j := by
  obtain ⟨i, h1, h2, _⟩ := h
  intro j hj L' hj' m hm
  rw [h1] at hj
  obtain rfl := List.mem_singleton.1 hj
  exact isLast_spec h2 hj' m hm

theorem wp_draw {P : Program} (hm : P.follows .mixedOrders = true) {tab : Tab} (htab : TabOk P tab) {R : Rd} {all : List Oper} {id : Nat} {t : OT} (hc : chkR all.toArray t = true) {K : Kont} {KF : Oper → Kont} {Q : Exit → Act → World → Prop} {ρ : List Value} {ds : List Deferred} {h : Hp} {w : World} (own : Own h w) (hr : RSat R w) (ap : Apart R h)
    (hn : ∀ ρ' ds' h' w', K ρ' ds' h' → Tr w h w' h' → Q .normal (act ρ' ds') w')
    (hf : ∀ i o ρ' ds' h' w', nthO all i = some o → KF o ρ' ds' h' → Tr w h w' h' → wpOp P all.toArray (onlyNormal Q) i (Q .normal) (act ρ' ds') w') (hE : vcT P tab R all K KF t ρ ds h) : (Code.region id all.toArray true).wp P Q (act ρ ds) w := by
  simp only [chkR, Bool.and_eq_true, Bool.or_eq_true] at hc
  have ht := Tr.drew own
  refine Code.wp_mono (Q := onlyNormal Q) (fun e a w h => ?_) (wp_region_any hm ?_)
  · cases e <;> first | exact h | exact False.elim h
  · rcases hc.2 with he | ⟨he, hsz⟩
    · have h1 := vcT_sound (Q := onlyNormal Q) (T := nilT all.toArray Q) (k := 0) htab hc.1.1 (fun L a w h j hj => by rw [h.1] at hj; cases hj) (fun _ _ _ h => h) (fun ⟨_, _, h⟩ => h) (.inl rfl) all.toArray.size t _ he hc.1.2 ht.own (hr.tr ap ht) (Apart.tr hr ap ht) (fun L ρ' ds' h' w' _ e2 hK ht2 => ⟨e2, hn _ _ _ w' hK (ht.trans ht2)⟩) (fun L i o ρ' ds' h' w' e1 => by cases e1) hE
      exact anyC_any (k := 0) (fun L a w h => h) all.toArray.size _ _ _ h1
    · have hs : 0 < all.toArray.size := Nat.le_of_ble_eq_true hsz
      have hs2 : all.toArray.size = (all.toArray.size - 1) + 1 := by omega
      have h0 := hc.1.2
      rw [hs2] at h0
      have h1 := vcT_sound (Q := onlyNormal Q) (T := finT P all.toArray Q) (k := 1) htab hc.1.1 finT_last (fun _ _ _ h => h) (fun ⟨_, _, h⟩ => h) (.inr rfl) (all.toArray.size - 1) t _ he h0 ht.own (hr.tr ap ht) (Apart.tr hr ap ht) (fun L ρ' ds' h' w' e1 => by cases e1) (fun L i o ρ' ds' h' w' _ e2 e3 e4 e5 hK ht2 => ⟨i, e3, e4, e5, hf i o _ _ _ w' e2 hK (ht.trans ht2)⟩) hE
      have h2 := anyC_any (k := 1) finT_any (all.toArray.size - 1) _ _ _ h1
      rw [← hs2] at h2
      exact h2

end Go.Proofs.YtbgfnofjnbpdgaaDoor
