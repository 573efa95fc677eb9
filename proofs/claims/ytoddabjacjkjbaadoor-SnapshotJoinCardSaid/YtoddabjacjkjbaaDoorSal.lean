/-
  Contract: the reference's Merge.
-/
import Derived.Test.YtoddabjacjkjbaaDoorSak
namespace Go.Proofs.YtoddabjacjkjbaaDoor
open Go Go.RowKit
set_option linter.unusedVariables false

theorem countC_mono {F D : Lg} (h : ∀ w, (F w).length ≤ (D w).length) : countC F ≤ countC D := by
  rw [countC_eq, countC_eq]
  have := h 0; have := h 1; have := h 2; have := h 3; have := h 4; have := h 5; have := h 6; have := h 7; have := h 8; have := h 9; have := h 10; have := h 11
  omega
theorem take_count {D : Lg} (hD : GoodC D) (k : Nat) : countC (toC ((flatC D).take k)) ≤ countC D := countC_mono fun w => (toC_prefix hD k w).length_le
theorem toC_step {D : Lg} {k : Nat} {m : Mk} (h : (flatC D)[k]? = some m) : toC ((flatC D).take (k + 1)) = updC (toC ((flatC D).take k)) m.s.w (toC ((flatC D).take k) m.s.w ++ [toRec m]) := by
  rw [List.take_add_one, h]
  exact toC_snoc _ _
theorem mergeC_upd (C T : Lg) (w : Int) (l : List Rec) : mergeC C (updC T w l) = updC (mergeC C T) w (mrgL (C w) l) := by
  funext v
  unfold mergeC updC
  by_cases h : v = w
  · rw [if_pos h, if_pos h, h]
  · rw [if_neg h, if_neg h]
theorem agree_upd {C T : Lg} (h : ∀ v, agreeB (C v) (T v) = true) {w : Int} {l : List Rec} (hl : agreeB (C w) l = true) : ∀ v, agreeB (C v) (updC T w l v) = true := fun v => by
  unfold updC
  by_cases hv : v = w
  · rw [if_pos hv, hv]; exact hl
  · rw [if_neg hv]; exact h v

theorem mrg_step {C D : Lg} (hC : GoodC C) (hD : GoodC D) {k : Nat} {m : Mk} (hget : (flatC D)[k]? = some m) (hag : ∀ v, agreeB (C v) (toC ((flatC D).take k) v) = true) :
    (rFind (flatC (mergeC C (toC ((flatC D).take k)))) m.s.w m.s.q = .none ∧ rPut (flatC (mergeC C (toC ((flatC D).take k)))) m = flatC (mergeC C (toC ((flatC D).take (k + 1)))) ∧ ∀ v, agreeB (C v) (toC ((flatC D).take (k + 1)) v) = true) ∨
    (∃ (i : Nat) (x : Rec), rFind (flatC (mergeC C (toC ((flatC D).take k)))) m.s.w m.s.q = some i ∧ (flatC (mergeC C (toC ((flatC D).take k))))[i]? = some x.mk' ∧ x.s.hd = false ∧ (¬ x.s = m.s.bare → agreesB C D = false) ∧
      (x.s = m.s.bare → (flatC (mergeC C (toC ((flatC D).take k)))).set i (mrg1 x (toRec m)).mk' = flatC (mergeC C (toC ((flatC D).take (k + 1)))) ∧ ∀ v, agreeB (C v) (toC ((flatC D).take (k + 1)) v) = true)) := by
  obtain ⟨hnx, hw0, hw1, hmk⟩ := flat_next hD hget
  have hT : GoodC (toC ((flatC D).take k)) := hD.cutBy (toC_prefix hD k)
  have hstep := toC_step hget
  have hE : GoodC (mergeC C (toC ((flatC D).take k))) := hC.merge hT hag
  obtain ⟨hr1, hr2, hr3, hr4⟩ := hD.rcd _ _ _ hnx
  rw [hstep, mergeC_upd]
  generalize hTd : toC ((flatC D).take k) = T at *
  have hq : m.s.q = ((T m.s.w).length : Int) + 1 := hr2
  obtain ⟨n, hwn⟩ := Int.eq_ofNat_of_zero_le hw0
  have hn12 : n < 12 := by omega
  have hfind := rFind_flat hE m.s.w m.s.q
  have hq1 : (m.s.q - 1).toNat = (T m.s.w).length := by omega
  have hEw : mergeC C T m.s.w = mrgL (C m.s.w) (T m.s.w) := rfl
  have hTn : (T m.s.w)[(T m.s.w).length]? = .none := List.getElem?_eq_none (Nat.le_refl _)
  have hfc : findC (mergeC C T) m.s.w m.s.q = (C m.s.w)[(T m.s.w).length]? := by
    unfold findC
    rw [if_neg (by omega), hq1, hEw, mrgL_get, hTn]
    cases (C m.s.w)[(T m.s.w).length]? <;> rfl
  cases hc : (C m.s.w)[(T m.s.w).length]? with
  | none =>
    left
    rw [hc] at hfc
    rw [hfc] at hfind
    have hle : (C m.s.w).length ≤ (T m.s.w).length := List.getElem?_eq_none_iff.1 hc
    refine ⟨by rw [hfind]; rfl, ?_, agree_upd hag ?_⟩
    · have hlen : (mergeC C T m.s.w).length = (T m.s.w).length := by rw [hEw, mrgL_length]; omega
      have := rPut_flat hE (x := toRec m) ⟨hw0, hw1⟩ (by show m.s.q = ((mergeC C T m.s.w).length : Int) + 1; rw [hlen]; exact hq)
      rw [toRec_mk'] at this
      rw [this, mrgL_snoc_new hle]; rfl
    · have ha := agreeB_iff.1 (hag m.s.w)
      refine agreeB_iff.2 fun i x y hx hy => ?_
      have hi := (List.getElem?_eq_some_iff.1 hx).1
      rw [List.getElem?_append_left (by omega)] at hy
      exact ha i x y hx hy
  | some x =>
    right
    rw [hc] at hfc
    rw [hfc, if_pos (show (some x).isSome = true from rfl), hq1] at hfind
    have hEx : (mergeC C T n)[(T m.s.w).length]? = some x := by
      rw [← hwn, hEw, mrgL_get, hTn, hc]
    have hwt : m.s.w.toNat = n := by omega
    rw [hwt] at hfind
    refine ⟨_, x, hfind, flatC_get hn12 hEx, (hC.rcd _ _ _ hc).2.2.1, fun hne => ?_, fun he => ⟨?_, agree_upd hag ?_⟩⟩
    · cases h : agreesB C D with
      | false => rfl
      | true => exact absurd (agreeB_iff.1 ((agreesB_iff hC).1 h m.s.w) _ _ _ hc hnx) hne
    · rw [flatC_set hn12 _ (List.getElem?_eq_some_iff.1 hEx).1, mrgL_snoc_old hc]
      have e : (n : Int) = m.s.w := hwn.symm
      rw [e]; rfl
    · have ha := agreeB_iff.1 (hag m.s.w)
      refine agreeB_iff.2 fun i u v hu hv => ?_
      by_cases hi : i < (T m.s.w).length
      · rw [List.getElem?_append_left hi] at hv
        exact ha i u v hu hv
      · rw [List.getElem?_append_right (by omega)] at hv
        have h0 : i = (T m.s.w).length := by
          have := (List.getElem?_eq_some_iff.1 hv).1
          simp at this; omega
        rw [h0] at hu hv
        rw [hc] at hu
        simp at hv
        cases hu
        rw [← hv]; exact he

/-- put, the list being the call's own. -/
theorem refput_own (R : Rd) {A : Option Addr} {cap n : Nat} {l : List Mk} (hn : l.length ≤ 1000000) (hl : n = l.length) (hg : grow n A) (m : Mk) :
    Fn Tryd.prog 172 [.slice A n cap, .agg ⟨m.cells⟩] [.row A n cap 242 11 (mks l) (0, 0)] R (fun v h => ∃ A' cap', grow (l.length + 1) A' ∧ v = .slice A' (l.length + 1) cap' ∧ h = [.row A' (l.length + 1) cap' 242 11 (mks (rPut l m)) (0, 0)]) := by
  subst hl
  refine fn_row 0 rfl (callable Tryd.func172 rfl (by kernel_rfl)) fun hc _ => Fn.ent (Fn.frame (h := []) (k := [_]) (refput_ok _ (SlR.own 0 rfl (mks_length _) hg) hn hc m)) ?_
  rintro _ _ ⟨_, rfl, A', cap', hg', rfl, rfl⟩
  exact ⟨_, Ent.pick [1] rfl, A', cap', hg', rfl, rfl⟩
/-- The cells of a mark in a row of the call's own. -/
theorem mk_own {R : Rd} {h : Hp} (j : Nat) {A : Option Addr} {q n cap : Nat} {e : TypeId} {fz : Nat × Nat} {l : List Mk} (hA : A = some ⟨q, 0, .none⟩) (hj : h[j]? = some (.row A n cap e 11 (mks l) fz)) {i : Nat} {y : Mk} (hy : l[i]? = some y) : ∀ k u, y.cells[k]? = some u → RH R h ((⟨q, 0, .none⟩ : Addr).add (i * 11 + k)) u := by
  intro k u hu
  rw [add_zero_addr]
  refine .inr ⟨_, List.mem_of_getElem? hj, ?_⟩
  show rowCell A (mks l) _ _
  rw [hA]
  exact ⟨rfl, rfl, flatAt (c := Mk.cells) (fun _ _ => rfl) hy hu⟩

/-- The list after the first marks of the other one. -/
def mrgK (C D : Lg) (k : Nat) : List Mk := flatC (mergeC C (toC ((flatC D).take k)))
theorem mrgK0 (C D : Lg) : mrgK C D 0 = flatC C := by
  have e : mergeC C (toC ((flatC D).take 0)) = C := by funext v; exact mrgL_nil _
  rw [mrgK, e]
def agK (C D : Lg) (k : Nat) : Prop := ∀ v, agreeB (C v) (toC ((flatC D).take k) v) = true
theorem mrg_stepK {C D : Lg} (hC : GoodC C) (hD : GoodC D) {k : Nat} {m : Mk} (hget : (flatC D)[k]? = some m) (hag : agK C D k) :
    (rFind (mrgK C D k) m.s.w m.s.q = .none ∧ rPut (mrgK C D k) m = mrgK C D (k + 1) ∧ agK C D (k + 1)) ∨
    (∃ (i : Nat) (x : Rec), rFind (mrgK C D k) m.s.w m.s.q = some i ∧ (mrgK C D k)[i]? = some x.mk' ∧ x.s.hd = false ∧ (¬ x.s = m.s.bare → agreesB C D = false) ∧
      (x.s = m.s.bare → (mrgK C D k).set i (mrg1 x (toRec m)).mk' = mrgK C D (k + 1) ∧ agK C D (k + 1))) := mrg_step hC hD hget hag

theorem setMk {l : List Mk} {i : Nat} {y y' : Mk} {qa o : Nat} {f : Bool} {k : Nat} (hy : l[i]? = some y) (hk : k < 11) (ho : o = i * 11 + k) (h : y'.cells = y.cells.set k (.bool f)) : setRange (mks l) o (cls (.bool f)) = mks (l.set i y') := by
  subst ho
  rw [← mks_set hk h hy]; rfl

end Go.Proofs.YtoddabjacjkjbaaDoor
