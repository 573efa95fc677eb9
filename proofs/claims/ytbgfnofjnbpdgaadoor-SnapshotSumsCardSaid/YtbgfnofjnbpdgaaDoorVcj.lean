/-
  Code, loops and functions.
-/
import Derived.Test.YtbgfnofjnbpdgaaDoorVci
namespace Go.Proofs.YtbgfnofjnbpdgaaDoor
open Go Go.RowKit

/-- What is known of the memory may be said otherwise. -/
def Ent (h h' : Hp) : Prop := ∀ w, Own h w → Own h' w ∧ ∀ g ∈ idsOf h', g ∈ idsOf h
theorem Ent.refl (h : Hp) : Ent h h := fun _ o => ⟨o, fun _ hg => hg⟩
theorem Ent.trans {a b c : Hp} (h : Ent a b) (k : Ent b c) : Ent a c := fun w o =>
  ⟨(k w (h w o).1).1, fun g hg => (h w o).2 g ((k w (h w o).1).2 g hg)⟩
theorem Ent.perm {a b : Hp} (p : a.Perm b) : Ent a b := fun _ o => ⟨o.perm p, fun _ hg => (List.Perm.flatMap_right _ p).mem_iff.2 hg⟩
theorem Tr.ent {w w' : World} {h h1 h2 : Hp} (t : Tr w h w' h1) (e : Ent h1 h2) : Tr w h w' h2 :=
  ⟨t.os, t.tape, t.output, t.size, t.keep, (e w' t.own).1, fun g hg => t.fresh g ((e w' t.own).2 g hg)⟩
/-- The row of a nil slice is there for nothing. -/
theorem Ent.nilrow (h : Hp) (e : TypeId) (sz : Nat) : Ent h (h ++ [.row .none 0 0 e sz [] (0, 0)]) := fun w o =>
  ⟨⟨fun x hx => by
    rcases List.mem_append.1 hx with hx | hx
    · exact o.all x hx
    · rw [List.mem_singleton.1 hx]; exact (⟨by simp, by omega, by simp, by simp, rfl⟩ : rowHolds w .none 0 0 e sz [] (0, 0)), by simpa [idsOf, HA.ids, rowIds] using o.nd⟩, fun g hg => by simpa [idsOf, HA.ids, rowIds] using hg⟩
/-- Memory may be forgotten. -/
theorem Ent.drop (a b : Hp) : Ent (a ++ b) a := fun _ o => ⟨o.left, fun g hg => by rw [idsOf_append]; exact List.mem_append_left _ hg⟩
theorem Ent.dropr (a b : Hp) : Ent (a ++ b) b := fun _ o => ⟨o.right, fun g hg => by rw [idsOf_append]; exact List.mem_append_right _ hg⟩

/-- The slots of the mask are whatever they are; the mask's numbers ascend. -/
def mskL : List (Option Nat) → (Nat → Value) → List Value → List Value
  | [], _, l => l
  | _ :: _, _, [] => []
  | some n :: M, js, _ :: l => js n :: mskL M js l
  | .none :: M, js, v :: l => v :: mskL M js l
def mskK : List (Option Nat) → (Nat → Value) → Nat → List Value → (List Value → Prop) → Prop
  | [], _, _, l, K => K l
  | _ :: _, _, _, [], K => K []
  | some n :: M, js, p, _ :: l, K => (match Nat.ble p n with
    | true => mskK M js (n + 1) l fun r => K (js n :: r)
    | false => False)
  | .none :: M, js, p, v :: l, K => mskK M js p l fun r => K (v :: r)
/-- The numbers of the mask ascend from p on, as far as there are slots. -/
def ascM : List (Option Nat) → Nat → List Value → Prop
  | [], _, _ => True
  | _ :: _, _, [] => True
  | some n :: M, p, _ :: l => p ≤ n ∧ ascM M (n + 1) l
  | .none :: M, p, _ :: l => ascM M p l
/-- The values of the masked slots. -/
def valM : List (Option Nat) → List Value → Nat → Value
  | some n :: M, v :: l, k => if k = n then v else valM M l k
  | .none :: M, _ :: l, k => valM M l k
  | _, _, _ => undef
def setsL : List Nat → List Value → List Value → List Value
  | s :: S, v :: vs, ρ => setsL S vs (ρ.set s v)
  | _, _, ρ => ρ
def setsK : List Nat → List Value → List Value → (List Value → Prop) → Prop
  | s :: S, v :: vs, ρ, K => stK ρ s v fun ρ' => setsK S vs ρ' K
  | _, _, ρ, K => K ρ
def agreeE (ρ : List Value) : List Nat → List Value → Prop
  | [], [] => True
  | s :: S, v :: vs => gtK (fun u => u = v) ρ s ∧ agreeE ρ S vs
  | _, _ => False

theorem mskK_sound : ∀ (M : List (Option Nat)) (js : Nat → Value) (p : Nat) (l : List Value) (K : List Value → Prop), mskK M js p l K → ascM M p l ∧ K (mskL M js l)
  | [], _, _, _, _, h => ⟨trivial, h⟩
  | some _ :: _, _, _, [], _, h => ⟨trivial, h⟩
  | .none :: _, _, _, [], _, h => ⟨trivial, h⟩
  | some n :: M, js, p, _ :: l, K, h => by
    unfold mskK at h
    split at h
    · rename_i hb
      obtain ⟨h1, h2⟩ := mskK_sound M js (n + 1) l _ h
      exact ⟨⟨Nat.le_of_ble_eq_true hb, h1⟩, h2⟩
    · exact h.elim
  | .none :: M, js, p, v :: l, K, h => mskK_sound M js p l _ h
theorem mskL_congr : ∀ (M : List (Option Nat)) (js ks : Nat → Value) (p : Nat) (l : List Value), ascM M p l → (∀ n, p ≤ n → js n = ks n) → mskL M js l = mskL M ks l
  | [], _, _, _, _, _, _ => rfl
  | some _ :: _, _, _, _, [], _, _ => rfl
  | .none :: _, _, _, _, [], _, _ => rfl
  | some n :: M, js, ks, p, _ :: l, h, hj => by
    simp only [mskL]
    rw [hj n h.1, mskL_congr M js ks (n + 1) l h.2 fun m hm => hj m (by have := h.1; omega)]
  | .none :: M, js, ks, p, v :: l, h, hj => by
    simp only [mskL]
    rw [mskL_congr M js ks p l h hj]
theorem ascM_len : ∀ (M : List (Option Nat)) (p : Nat) (l l' : List Value), l.length = l'.length → ascM M p l → ascM M p l'
  | [], _, _, _, _, _ => trivial
  | some _ :: _, _, [], [], _, h => trivial
  | .none :: _, _, [], [], _, h => trivial
  | some _ :: _, _, [], _ :: _, e, _ => by simp at e
  | .none :: _, _, [], _ :: _, e, _ => by simp at e
  | some _ :: _, _, _ :: _, [], e, _ => by simp at e
  | .none :: _, _, _ :: _, [], e, _ => by simp at e
  | some n :: M, p, _ :: l, _ :: l', e, h => ⟨h.1, ascM_len M (n + 1) l l' (by simpa using e) h.2⟩
  | .none :: M, p, _ :: l, _ :: l', e, h => ascM_len M p l l' (by simpa using e) h
theorem mskL_length : ∀ (M : List (Option Nat)) (js : Nat → Value) (l : List Value), (mskL M js l).length = l.length
  | [], _, _ => rfl
  | some _ :: _, _, [] => rfl
  | .none :: _, _, [] => rfl
  | some n :: M, js, _ :: l => by simp [mskL, mskL_length M js l]
  | .none :: M, js, _ :: l => by simp [mskL, mskL_length M js l]
theorem setsK_eq : ∀ (S : List Nat) (vs ρ : List Value) (K : List Value → Prop), setsK S vs ρ K = K (setsL S vs ρ)
  | s :: S, v :: vs, ρ, K => by rw [setsK, stK_eq, setsK_eq S vs]; rfl
  | [], [], _, _ => rfl
  | [], _ :: _, _, _ => rfl
  | _ :: _, [], _, _ => rfl
theorem set_gt : ∀ (ρ : List Value) (s : Nat), ρ.set s (gt ρ s) = ρ
  | [], _ => by simp
  | _ :: _, 0 => rfl
  | v :: l, n + 1 => by simp [gt, set_gt l n]
theorem setsL_agree : ∀ (S : List Nat) (vs ρ : List Value), agreeE ρ S vs → setsL S vs ρ = ρ
  | [], [], _, _ => rfl
  | s :: S, v :: vs, ρ, h => by
    obtain ⟨h1, h2⟩ := h
    rw [gtK_eq] at h1
    rw [setsL, ← h1, set_gt]
    exact setsL_agree S vs ρ h2
  | [], _ :: _, _, h => False.elim h
  | _ :: _, [], _, h => False.elim h
theorem mskL_same : ∀ (M : List (Option Nat)) (p : Nat) (l l' : List Value), ascM M p l → mskL M (fun _ => undef) l' = mskL M (fun _ => undef) l → mskL M (valM M l') l = l'
  | [], _, _, _, _, h => h.symm
  | some _ :: _, _, [], [], _, _ => rfl
  | .none :: _, _, [], [], _, _ => rfl
  | some _ :: _, _, [], _ :: _, _, h => by simp [mskL] at h
  | .none :: _, _, [], _ :: _, _, h => by simp [mskL] at h
  | some _ :: _, _, _ :: _, [], _, h => by simp [mskL] at h
  | .none :: _, _, _ :: _, [], _, h => by simp [mskL] at h
  | some n :: M, p, v :: l, v' :: l', ha, h => by
    simp only [mskL, List.cons.injEq, true_and] at h ⊢
    refine ⟨if_pos rfl, ?_⟩
    rw [mskL_congr M (valM (some n :: M) (v' :: l')) (valM M l') (n + 1) l ha.2 fun m hm => if_neg (by omega)]
    exact mskL_same M (n + 1) l l' ha.2 h
  | .none :: M, p, v :: l, v' :: l', ha, h => by
    simp only [mskL, List.cons.injEq] at h ⊢
    exact ⟨h.1.symm, mskL_same M p l l' ha h.2⟩

def loopE (body : Kont → (Nat → Kont) → Kont → Kont) (ρ : List Value) (ds : List Deferred) (h : Hp) (X : Nat → Kont) (Rt : Kont) : Prop :=
  ∃ (W : List (Option Nat)) (S : List Nat) (α : Type) (inv : α → Prop) (fr : α → List Value) (hp : α → Hp) (μ : α → Nat) (x0 : α), inv x0 ∧ agreeE ρ S (fr x0) ∧ Ent h (hp x0) ∧
    ∀ x, inv x → ∀ js : Nat → Value, mskK W js 0 ρ fun ρ1 => setsK S (fr x) ρ1 fun ρ2 =>
      body (fun ρ' ds' h' => ds' = ds ∧ ∃ y, inv y ∧ μ y < μ x ∧ agreeE ρ' S (fr y) ∧ Ent h' (hp y) ∧ mskK W (fun _ => undef) 0 ρ' fun l' => mskK W (fun _ => undef) 0 ρ fun l => l' = l) X Rt ρ2 ds (hp x)

def vcC (P : Program) (tab : Tab) (R : Rd) : Code → Kont → (Nat → Kont) → Kont → Kont
  | .skip, N, _, _ => N
  | .label _, N, _, _ => N
  | .region _ ops draw, N, _, _ => fun ρ ds h => (match draw with
    | false => vcOps P tab R ops.toList N ops.toList ρ ds h
    | true => ∃ (is : List Nat) (t : OT), chkR ops t = true ∧ pickK is h fun hR hE => vcT P tab (RH R hR) ops.toList (fun ρ' ds' h' => apHK h' (fun h2 => N ρ' ds' h2) hR) (fun o ρ' ds' h' => apHK h' (fun h2 => vcOp P tab R ops.toList o ρ' ds' h2 N) hR) t ρ ds hE)
  | .seq a b, N, X, Rt => fun ρ ds h => vcC P tab R a (fun ρ' ds' h' => vcC P tab R b N X Rt ρ' ds' h') X Rt ρ ds h
  | .cond c a b, N, X, Rt => fun ρ ds h => evK ρ c fun v => (match v with
    | .bool t => (t = true → vcC P tab R a N X Rt ρ ds h) ∧ (t = false → vcC P tab R b N X Rt ρ ds h)
    | _ => False)
  | .block id c, N, X, Rt => vcC P tab R c N (fun i => match Nat.beq i id with | true => N | false => X i) Rt
  | .exit id, _, X, _ => X id
  | .ret, _, _, Rt => Rt
  | .loop body, _, X, Rt => fun ρ ds h => loopE (vcC P tab R body) ρ ds h X Rt
  | .rangeFunc f ps assign body, N, X, Rt => fun ρ ds h => ∀ w, Own h w → RSat R w → Apart R h → (Code.rangeFunc f ps assign body).wp P (fun e a' w' => ∃ ρ' ds' h', a' = act ρ' ds' ∧ Tr w h w' h' ∧ (match e with
      | .normal => N ρ' ds' h'
      | .exit i => X i ρ' ds' h'
      | .ret => Rt ρ' ds' h'
      | _ => False)) (act ρ ds) w
  | _, _, _, _ => fun _ _ _ => False

theorem vcC_sound {P : Program} (hm : P.follows .mixedOrders = true) {tab : Tab} (htab : TabOk P tab) {R : Rd} (c : Code) : ∀ {N : Kont} {X : Nat → Kont} {Rt : Kont} {ρ : List Value} {ds : List Deferred} {h : Hp} {w : World} {Q : Exit → Act → World → Prop}, Own h w → RSat R w → Apart R h →
    (∀ ρ' ds' h' w', N ρ' ds' h' → Tr w h w' h' → Q .normal (act ρ' ds') w') → (∀ i ρ' ds' h' w', X i ρ' ds' h' → Tr w h w' h' → Q (.exit i) (act ρ' ds') w') → (∀ ρ' ds' h' w', Rt ρ' ds' h' → Tr w h w' h' → Q .ret (act ρ' ds') w') →
    vcC P tab R c N X Rt ρ ds h → c.wp P Q (act ρ ds) w := by
  induction c with
  | skip => intro N X Rt ρ ds h w Q own hr ap hN hX hR hE; exact wp_skip (hN _ _ _ w hE (Tr.refl own))
  | label l => intro N X Rt ρ ds h w Q own hr ap hN hX hR hE; exact wp_label (hN _ _ _ w hE (Tr.refl own))
  | exit id => intro N X Rt ρ ds h w Q own hr ap hN hX hR hE; exact wp_exit (hX _ _ _ _ w hE (Tr.refl own))
  | ret => intro N X Rt ρ ds h w Q own hr ap hN hX hR hE; exact wp_ret (hR _ _ _ w hE (Tr.refl own))
  | region id ops draw =>
    intro N X Rt ρ ds h w Q own hr ap hN hX hR hE
    obtain ⟨l⟩ := ops
    unfold vcC at hE
    cases draw with
    | false => exact wp_region_lit (vcOps_sound htab l own hr ap hN hE)
    | true =>
      obtain ⟨is, t, hc, hE⟩ := hE
      obtain ⟨hR', hE', hp, hE⟩ := pickK_sound _ _ _ hE
      have hp2 : h.Perm (hE' ++ hR') := hp.trans List.perm_append_comm
      have own2 := own.perm hp2
      have ap2 := ap.perm hp2
      refine wp_draw hm htab hc own2.left (fun a v hv => ?_) (ap2.rh own2) (fun ρ' ds' h' w' hK ht => ?_) (fun i o ρ' ds' h' w' ho hK ht => ?_) hE
      · rcases hv with hv | ⟨x, hx, hcx⟩
        · exact hr a v hv
        · exact HA.cell_sound (own2.all x (List.mem_append_right _ hx)) hcx
      · rw [apHK_eq] at hK
        exact hN _ _ _ w' hK ((Tr.refl own).frame hp2 ht)
      · rw [apHK_eq] at hK
        have htt := (Tr.refl own).frame hp2 ht
        exact vcOp_wpOp htab htt.own (hr.tr ap htt) (Apart.tr hr ap htt) ho (fun ρ2 ds2 h2 w2 hK2 ht2 => hN _ _ _ w2 hK2 (htt.trans ht2)) hK
  | seq a b iha ihb =>
    intro N X Rt ρ ds h w Q own hr ap hN hX hR hE
    refine wp_seq (iha own hr ap (fun ρ' ds' h' w' hK ht => ?_) hX hR hE)
    exact ihb ht.own (hr.tr ap ht) (Apart.tr hr ap ht) (fun ρ2 ds2 h2 w2 hK2 ht2 => hN _ _ _ w2 hK2 (ht.trans ht2)) (fun i ρ2 ds2 h2 w2 hK2 ht2 => hX i _ _ _ w2 hK2 (ht.trans ht2)) (fun ρ2 ds2 h2 w2 hK2 ht2 => hR _ _ _ w2 hK2 (ht.trans ht2)) hK
  | cond x a b iha ihb =>
    intro N X Rt ρ ds h w Q own hr ap hN hX hR hE
    unfold vcC at hE
    rw [evK_eq] at hE
    split at hE <;> first | exact hE.elim | skip
    rename_i t hx
    refine wp_cond_split (t := t) (by rw [act_eval]; exact hx) (fun ht => iha own hr ap hN hX hR (hE.1 ht)) (fun ht => ihb own hr ap hN hX hR (hE.2 ht))
  | block id c ih =>
    intro N X Rt ρ ds h w Q own hr ap hN hX hR hE
    refine wp_block (ih own hr ap hN (fun i ρ' ds' h' w' hK ht => ?_) hR hE)
    simp only [Exit.inBlock]
    by_cases hi : i = id
    · rw [if_pos hi]
      subst hi
      have hb : Nat.beq i i = true := Nat.beq_refl i
      rw [hb] at hK
      exact hN _ _ _ w' hK ht
    · rw [if_neg hi]
      have hb : Nat.beq i id = false := by
        cases hb : Nat.beq i id
        · rfl
        · exact absurd (Nat.eq_of_beq_eq_true hb) hi
      rw [hb] at hK
      exact hX i _ _ _ w' hK ht
  | loop body ih =>
    intro N X Rt ρ ds h w Q own hr ap hN hX hR hE
    obtain ⟨W, S, α, inv, fr, hp, μ, x0, h0, hag, hent, hround⟩ := hE
    have hasc : ascM W 0 ρ := (mskK_sound _ _ _ _ _ (hround x0 h0 (fun _ => undef))).1
    refine wp_loop_ghost (fun n a w' => ∃ x js, inv x ∧ μ x = n ∧ a = act (setsL S (fr x) (mskL W js ρ)) ds ∧ Tr w h w' (hp x)) (μ x0) ⟨x0, valM W ρ, h0, rfl, ?_, (Tr.refl own).ent hent⟩ ?_
    · rw [mskL_same W 0 ρ ρ hasc rfl, setsL_agree S _ ρ hag]
    · rintro n a w1 ⟨x, js, hx, rfl, rfl, ht⟩
      have hE := (mskK_sound _ _ _ _ _ (hround x hx js)).2
      rw [setsK_eq] at hE
      refine ih ht.own (hr.tr ap ht) (Apart.tr hr ap ht) (fun ρ' ds' h' w' hK ht2 => ?_) (fun i ρ2 ds2 h2 w2 hK2 ht2 => hX i _ _ _ w2 hK2 (ht.trans ht2)) (fun ρ2 ds2 h2 w2 hK2 ht2 => hR _ _ _ w2 hK2 (ht.trans ht2)) hE
      obtain ⟨rfl, y, hy, hlt, hag', hent', hmask⟩ := hK
      have hmask := (mskK_sound _ _ _ _ _ (mskK_sound _ _ _ _ _ hmask).2).2
      refine ⟨μ y, hlt, y, valM W ρ', hy, rfl, ?_, (ht.trans ht2).ent hent'⟩
      rw [mskL_same W 0 ρ ρ' hasc hmask, setsL_agree S _ ρ' hag']
  | rangeFunc f ps assign body =>
    intro N X Rt ρ ds h w Q own hr ap hN hX hR hE
    refine Code.wp_mono (fun e a' w' hq => ?_) (hE w own hr ap)
    obtain ⟨ρ', ds', h', rfl, ht, hq⟩ := hq
    cases e <;> first | exact False.elim hq | exact hN _ _ _ w' hq ht | exact hX _ _ _ _ w' hq ht | exact hR _ _ _ w' hq ht
  | _ => intro N X Rt ρ ds h w Q own hr ap hN hX hR hE; exact False.elim hE

/-! ### functions -/
def iniK : Nat → List Value → (List Value → Prop) → Prop
  | 0, _, K => K []
  | n + 1, [], K => iniK n [] fun l => K (undef :: l)
  | n + 1, a :: as, K => iniK n as fun l => K (a :: l)
theorem iniK_eq : ∀ (n : Nat) (args : List Value) (K : List Value → Prop), args.length ≤ n → iniK n args K = K (args ++ List.replicate (n - args.length) undef)
  | 0, args, K, h => by
    have : args = [] := List.eq_nil_of_length_eq_zero (by omega)
    subst this; rfl
  | n + 1, [], K, _ => by
    rw [iniK, iniK_eq n [] _ (by simp)]
    simp [List.replicate_succ]
  | n + 1, a :: as, K, h => by
    rw [iniK, iniK_eq n as _ (by simpa using h)]
    simp

def resK (tab : Tab) (R : Rd) (ρ : List Value) : List ResultVar → (List Value → Prop) → Prop
  | [], K => K []
  | .tmp t :: r, K => gtK (fun v => resK tab R ρ r fun l => K (v :: l)) ρ t
  | .cell a T :: r, K => gtK (fun p => (match p, lk tab T with
    | .pointer (some ad), some ti => (match ti.kind.agg with
      | true => ∃ vs, RdN R ad vs ∧ vs.length = ti.size ∧ resK tab R ρ r fun l => K (.agg ⟨vs⟩ :: l)
      | false => ∃ v, R ad v ∧ resK tab R ρ r fun l => K (v :: l))
    | _, _ => False)) ρ a

def retV : List Value → Value
  | [v] => v
  | l => .tuple ⟨l⟩

def resOne (g : Nat → Value) : ResultVar → Sem Value
  | .tmp t => pure (g t)
  | .cell a t => do loadVar t (← asAddr (g a))

theorem resK_sound {P : Program} {tab : Tab} (htab : TabOk P tab) {R : Rd} {ρ : List Value} {w : World} (hr : RSat R w) : ∀ (l : List ResultVar) (K : List Value → Prop), resK tab R ρ l K →
    ∃ vs, (l.mapM (resOne (gt ρ))).run P w = .ok vs w ∧ K vs
  | [], K, h => ⟨[], by simp, h⟩
  | .tmp t :: r, K, h => by
    unfold resK at h
    rw [gtK_eq] at h
    obtain ⟨vs, h1, h2⟩ := resK_sound htab hr r _ h
    refine ⟨_ :: vs, ?_, h2⟩
    simp only [List.mapM_cons, Sem.run_bind, resOne, Sem.run_pure, Result.andThen_ok, h1]
  | .cell a T :: r, K, h => by
    unfold resK at h
    rw [gtK_eq] at h
    split at h <;> first | exact h.elim | skip
    rename_i ad ti hp hti
    split at h
    · rename_i hk
      obtain ⟨vs, a1, a2, h⟩ := h
      obtain ⟨us, h1, h2⟩ := resK_sound htab hr r _ h
      refine ⟨_ :: us, ?_, h2⟩
      have : (resOne (gt ρ) (.cell a T)).run P w = .ok (.agg ⟨vs⟩) w := by
        simp only [resOne, Sem.run_bind, hp, asAddr, Sem.run_pure, Result.andThen_ok, run_loadVar_agg hr (lk_ok htab hti) hk a1 a2]
      simp only [List.mapM_cons, Sem.run_bind, Sem.run_pure, Result.andThen_ok, this, h1]
    · rename_i hk
      obtain ⟨v, a1, h⟩ := h
      obtain ⟨us, h1, h2⟩ := resK_sound htab hr r _ h
      refine ⟨_ :: us, ?_, h2⟩
      have : (resOne (gt ρ) (.cell a T)).run P w = .ok v w := by
        simp only [resOne, Sem.run_bind, hp, asAddr, Sem.run_pure, Result.andThen_ok, run_loadVar_one hr (lk_ok htab hti) hk a1]
      simp only [List.mapM_cons, Sem.run_bind, Sem.run_pure, Result.andThen_ok, this, h1]

theorem run_results {P : Program} {tab : Tab} (htab : TabOk P tab) {R : Rd} {ρ : List Value} {w : World} (hr : RSat R w) {fn : Func} {K : List Value → Prop} (h : resK tab R ρ fn.results.toList K) : ∃ vs, (results fn ρ.toArray).run P w = .ok (retV vs) w ∧ K vs := by
  obtain ⟨vs, h1, h2⟩ := resK_sound (P := P) htab hr _ _ h
  refine ⟨vs, ?_, h2⟩
  have e : results fn ρ.toArray = (do let vs ← fn.results.mapM (resOne (gt ρ)); pure (if h : vs.size = 1 then vs[0] else .tuple vs)) := by
    unfold results
    congr 2
    funext r
    cases r <;> simp only [resOne, gt_eq]
  rw [e, Array.mapM_eq_mapM_toList]
  simp only [Sem.run_bind, Sem.run_map, h1, Result.andThen_ok, Sem.run_pure]
  match vs with
  | [] => rfl
  | [v] => rfl
  | _ :: _ :: _ => rfl

/-- The deferred calls of a frame that returns, and then its results. -/
def runD (P : Program) (R : Rd) (K : Hp → Prop) : List Deferred → Hp → Prop
  | [], h => K h
  | d :: ds, h => (match d.target with
    | .fn (.func f) cap => ∃ is : List Nat, pickK is h fun hs rest => ∃ Post : Hp → Prop, FnD P f (d.args.toList ++ cap.toList) hs (RH R rest) Post ∧ ∀ h', Post h' → ∃ h2, Ent (rest ++ h') h2 ∧ runD P R K ds h2
    | _ => False)

theorem runD_sound {P : Program} {tab : Tab} (htab : TabOk P tab) {R : Rd} {ρ : List Value} {fn : Func} {w0 : World} {h0 : Hp} {Post : Value → Hp → Prop} : ∀ (ds : List Deferred) (h : Hp) (w : World), Tr w0 h0 w h → RSat R w → Apart R h →
    runD P R (fun h => resK tab (RH R h) ρ fn.results.toList fun l => ∃ h', Ent h h' ∧ Post (retV l) h') ds h → Leaves P fn ρ.toArray (FnPost w0 h0 Post) ds .returning w
  | [], h, w, ht, hr, ap, hE => by
    obtain ⟨vs, h1, h', he, hp⟩ := run_results (P := P) htab (hr.rh ht.own) hE
    exact ⟨_, h1, _, h', rfl, hp, ht.ent he⟩
  | d :: ds, h, w, ht, hr, ap, hE => by
    obtain ⟨target, dargs⟩ := d
    unfold runD at hE
    split at hE <;> first | exact hE.elim | skip
    rename_i f cap htar
    simp only at htar; subst htar
    obtain ⟨is, hE⟩ := hE
    obtain ⟨hs, rest, hp, Post', hF, hK⟩ := pickK_sound _ _ _ hE
    have own2 := ht.own.perm hp
    have ap2 := ap.perm hp
    have hrun : (invoke (.fn (.func f) cap) dargs).run P w = .ok (.enter f (dargs.toList ++ cap.toList).toArray) w := by
      have : (dargs ++ cap) = (dargs.toList ++ cap.toList).toArray := by apply Array.ext'; simp
      simp only [invoke, this]
      exact run_callFunc_of hF.1 _ w
    refine leaves_cons (by simp) hrun ((hF.2 w own2.left (fun a v hv => ?_) (ap2.rh own2)).mono fun e u' w' he => ?_)
    · rcases hv with hv | ⟨x, hx, hc⟩
      · exact hr a v hv
      · exact HA.cell_sound (own2.all x (List.mem_append_right _ hx)) hc
    · obtain ⟨rfl, v, h', rfl, hq, ht'⟩ := he
      obtain ⟨h2, hent, hk⟩ := hK h' hq
      have htt := ((Tr.refl ht.own).frame hp ht').ent hent
      exact runD_sound htab ds _ w' (ht.trans htt) (hr.tr ap htt) (Apart.tr hr ap htt) hk

def retE (P : Program) (tab : Tab) (R : Rd) (rs : List ResultVar) (Post : Value → Hp → Prop) : Kont :=
  fun ρ ds h => runD P R (fun h => resK tab (RH R h) ρ rs fun l => ∃ h', Ent h h' ∧ Post (retV l) h') ds h

/-- THE CONTRACT OF A FUNCTION OUT OF ITS FORMULA. -/
theorem fn_of_vc {P : Program} (hm : P.follows .mixedOrders = true) {tab : Tab} (htab : TabOk P tab) {f : FuncId} {fn : Func} {c : Code} (hf : P.funcs[f]? = some fn) (hb : fn.body = some c) (hname : (fn.name == "runtime.NumGoroutine") = false)
    {args : List Value} {h : Hp} {R : Rd} {Post : Value → Hp → Prop} (hl : args.length ≤ fn.ntmps)
    (hvc : iniK fn.ntmps args fun ρ => vcC P tab R c (retE P tab R fn.results.toList Post) (fun _ _ _ _ => False) (retE P tab R fn.results.toList Post) ρ [] h) : Fn P f args h R Post := by
  refine ⟨⟨fn, hf, by simp [hb], hname⟩, fun w own hr ap => ?_⟩
  rw [iniK_eq _ _ _ hl] at hvc
  refine calls_of_wp_defers hf hb ?_
  have e : (args.toArray ++ Array.replicate (fn.ntmps - args.toArray.size) undef) = (args ++ List.replicate (fn.ntmps - args.length) undef).toArray := by
    apply Array.ext'; simp
  rw [e]
  refine vcC_sound hm htab c own hr ap (fun ρ ds h' w' hK ht => ?_) (fun i ρ ds h' w' hK _ => False.elim hK) (fun ρ ds h' w' hK ht => ?_) hvc
  · exact runD_sound htab ds h' w' ht (hr.tr ap ht) (Apart.tr hr ap ht) hK
  · exact runD_sound htab ds h' w' ht (hr.tr ap ht) (Apart.tr hr ap ht) hK

/-- The same of a function that is called by a 'defer' and defers nothing. -/
theorem fnD_of_vc {P : Program} (hm : P.follows .mixedOrders = true) {tab : Tab} (htab : TabOk P tab) {f : FuncId} {fn : Func} {c : Code} (hf : P.funcs[f]? = some fn) (hb : fn.body = some c) (hname : (fn.name == "runtime.NumGoroutine") = false)
    {args : List Value} {h : Hp} {R : Rd} {Post : Hp → Prop} (hl : args.length ≤ fn.ntmps) (hres : fn.results = #[])
    (hvc : iniK fn.ntmps args fun ρ => vcC P tab R c (fun _ ds h => ds = [] ∧ ∃ h', Ent h h' ∧ Post h') (fun _ _ _ _ => False) (fun _ ds h => ds = [] ∧ ∃ h', Ent h h' ∧ Post h') ρ [] h) : FnD P f args h R Post := by
  refine ⟨⟨fn, hf, by simp [hb], hname⟩, fun w own hr ap => ?_⟩
  rw [iniK_eq _ _ _ hl] at hvc
  refine callsD_of_wp hf hb ?_
  have e : (args.toArray ++ Array.replicate (fn.ntmps - args.toArray.size) undef) = (args ++ List.replicate (fn.ntmps - args.length) undef).toArray := by
    apply Array.ext'; simp
  rw [e]
  refine vcC_sound hm htab c own hr ap (fun ρ ds h' w' hK ht => ?_) (fun i ρ ds h' w' hK _ => False.elim hK) (fun ρ ds h' w' hK ht => ?_) hvc
  · obtain ⟨rfl, h2, he, hp⟩ := hK
    exact ⟨rfl, .tuple #[], by simp [results, hres], .tuple #[], h2, rfl, hp, ht.ent he⟩
  · obtain ⟨rfl, h2, he, hp⟩ := hK
    exact ⟨rfl, .tuple #[], by simp [results, hres], .tuple #[], h2, rfl, hp, ht.ent he⟩

end Go.Proofs.YtbgfnofjnbpdgaaDoor
