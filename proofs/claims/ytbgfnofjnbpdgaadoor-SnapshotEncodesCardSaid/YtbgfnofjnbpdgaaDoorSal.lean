/-
  Contract: the reference's Merge.
-/
import Derived.Test.YtbgfnofjnbpdgaaDoorSak
namespace Go.Proofs.YtbgfnofjnbpdgaaDoor
open Go Go.RowKit
set_option linter.unusedVariables false

theorem countC_mono {F D : Lg} (h : ∀ w, (F w).length ≤ (D w).length) : countC F ≤ countC D := by
  rw [countC_eq, countC_eq]
  have := h 0; have := h 1; have := h 2; have := h 3; have := h 4; have := h 5; have := h 6; have := h 7; have := h 8; have := h 9; have := h 10; have := h 11
  omega
theorem take_count {D : Lg} (hD : GoodC D) (k : Nat) : countC (toC ((flatC D).take k)) ≤ countC D := countC_mono fun w => (toC_prefix hD k w).length_le
theorem toC_step {D : Lg} {k : Nat} {m : Mk} (h : (flatC D)[k]? = some m) : toC ((flatC D).take (k + 1)) = updC (toC ((flatC D).take k)) m.s.w (toC ((flatC D).take k) m.s.w ++ [toRec m]) := by
  rw [List.take_add_one, h]
  exact toC_snoc _ _
theorem mergeC_upd (C T : Lg) (w : Int) (l : List Rec) : mergeC C (updC T w l) = updC (mergeC C T) w (mrgL (C w) l) := by
  funext v
  unfold mergeC updC
  by_cases h : v = w
  · rw [if_pos h, if_pos h, h]
  · rw [if_neg h, if_neg h]
theorem agree_upd {C T : Lg} (h : ∀ v, agreeB (C v) (T v) = true) {w : Int} {l : List Rec} (hl : agreeB (C w) l = true) : ∀ v, agreeB (C v) (updC T w l v) = true := fun v => by
  unfold updC
  by_cases hv : v = w
  · rw [if_pos hv, hv]; exact hl
  · rw [if_neg hv]; exact h v

theorem mrg_step {C D : Lg} (hC : GoodC C) (hD : GoodC D) {k : Nat} {m : Mk} (hget : (flatC D)[k]? = some m) (hag : ∀ v, agreeB (C v) (toC ((flatC D).take k) v) = true) :
    (rFind (flatC (mergeC C (toC ((flatC D).take k)))) m.s.w m.s.q = .none ∧ rPut (flatC (mergeC C (toC ((flatC D).take k)))) m = flatC (mergeC C (toC ((flatC D).take (k + 1)))) ∧ ∀ v, agreeB (C v) (toC ((flatC D).take (k + 1)) v) = true) ∨
    (∃ (i : Nat) (x : Rec), rFind (flatC (mergeC C (toC ((flatC D).take k)))) m.s.w m.s.q = some i ∧ (flatC (mergeC C (toC ((flatC D).take k))))[i]? = some x.mk' ∧ x.s.hd = false ∧ (¬ x.s = m.s.bare → agreesB C D = false) ∧
      (x.s = m.s.bare → (flatC (mergeC C (toC ((flatC D).take k)))).set i (mrg1 x (toRec m)).mk' = flatC (mergeC C (toC ((flatC D).take (k + 1)))) ∧ ∀ v, agreeB (C v) (toC ((flatC D).take (k + 1)) v) = true)) := by
  obtain ⟨hnx, hw0, hw1, hmk⟩ := flat_next hD hget
  have hT : GoodC (toC ((flatC D).take k)) := hD.cutBy (toC_prefix hD k)
  have hstep := toC_step hget
  have hE : GoodC (mergeC C (toC ((flatC D).take k))) := hC.merge hT hag
  obtain ⟨hr1, hr2, hr3, hr4⟩ := hD.rcd _ _ _ hnx
  rw [hstep, mergeC_upd]
  generalize hTd : toC ((flatC D).take k) = T at *
  have hq : m.s.q = ((T m.s.w).length : Int) + 1 := hr2
  obtain ⟨n, hwn⟩ := Int.eq_ofNat_of_zero_le hw0
  have hn12 : n < 12 := by omega
  have hfind := rFind_flat hE m.s.w m.s.q
  have hq1 : (m.s.q - 1).toNat = (T m.s.w).length := by omega
  have hEw : mergeC C T m.s.w = mrgL (C m.s.w) (T m.s.w) := rfl
  have hTn : (T m.s.w)[(T m.s.w).length]? = .none := List.getElem?_eq_none (Nat.le_refl _)
  have hfc : findC (mergeC C T) m.s.w m.s.q = (C m.s.w)[(T m.s.w).length]? := by
    unfold findC
    rw [if_neg (by omega), hq1, hEw, mrgL_get, hTn]
    cases (C m.s.w)[(T m.s.w).length]? <;> rfl
  cases hc : (C m.s.w)[(T m.s.w).length]? with
  | none =>
    left
    rw [hc] at hfc
    rw [hfc] at hfind
    have hle : (C m.s.w).length ≤ (T m.s.w).length := List.getElem?_eq_none_iff.1 hc
    refine ⟨by rw [hfind]; rfl, ?_, agree_upd hag ?_⟩
    · have hlen : (mergeC C T m.s.w).length = (T m.s.w).length := by rw [hEw, mrgL_length]; omega
      have := rPut_flat hE (x := toRec m) ⟨hw0, hw1⟩ (by show m.s.q = ((mergeC C T m.s.w).length : Int) + 1; rw [hlen]; exact hq)
      rw [toRec_mk'] at this
      rw [this, mrgL_snoc_new hle]; rfl
    · have ha := agreeB_iff.1 (hag m.s.w)
      refine agreeB_iff.2 fun i x y hx hy => ?_
      have hi := (List.getElem?_eq_some_iff.1 hx).1
      rw [List.getElem?_append_left (by omega)] at hy
      exact ha i x y hx hy
  | some x =>
    right
    rw [hc] at hfc
    rw [hfc, if_pos (show (some x).isSome = true from rfl), hq1] at hfind
    have hEx : (mergeC C T n)[(T m.s.w).length]? = some x := by
      rw [← hwn, hEw, mrgL_get, hTn, hc]
    have hwt : m.s.w.toNat = n := by omega
    rw [hwt] at hfind
    refine ⟨_, x, hfind, flatC_get hn12 hEx, (hC.rcd _ _ _ hc).2.2.1, fun hne => ?_, fun he => ⟨?_, agree_upd hag ?_⟩⟩
    · cases h : agreesB C D with
      | false => rfl
      | true => exact absurd (agreeB_iff.1 ((agreesB_iff hC).1 h m.s.w) _ _ _ hc hnx) hne
    · rw [flatC_set hn12 _ (List.getElem?_eq_some_iff.1 hEx).1, mrgL_snoc_old hc]
      have e : (n : Int) = m.s.w := hwn.symm
      rw [e]; rfl
    · have ha := agreeB_iff.1 (hag m.s.w)
      refine agreeB_iff.2 fun i u v hu hv => ?_
      by_cases hi : i < (T m.s.w).length
      · rw [List.getElem?_append_left hi] at hv
        exact ha i u v hu hv
      · rw [List.getElem?_append_right (by omega)] at hv
        have h0 : i = (T m.s.w).length := by
          have := (List.getElem?_eq_some_iff.1 hv).1
          simp at this; omega
        rw [h0] at hu hv
        rw [hc] at hu
        simp at hv
        cases hu
        rw [← hv]; exact he

/-- put, the list being the call's own. -/
theorem refput_own (R : Rd) {A : Option Addr} {cap n : Nat} {l : List Mk} (hn : l.length ≤ 1000000) (hl : n = l.length) (hg : grow n A) (m : Mk) :
    Fn Tryd.prog 62 [.slice A n cap, .agg ⟨m.cells⟩] [.row A n cap 107 11 (mks l) (0, 0)] R (fun v h => ∃ A' cap', grow (l.length + 1) A' ∧ v = .slice A' (l.length + 1) cap' ∧ h = [.row A' (l.length + 1) cap' 107 11 (mks (rPut l m)) (0, 0)]) := by
  subst hl
  refine fn_row 0 rfl (callable Tryd.func62 rfl (by kernel_rfl)) fun hc _ => Fn.ent (Fn.frame (h := []) (k := [_]) (refput_ok _ (SlR.own 0 rfl (mks_length _) hg) hn hc m)) ?_
  rintro _ _ ⟨_, rfl, A', cap', hg', rfl, rfl⟩
  exact ⟨_, Ent.pick [1] rfl, A', cap', hg', rfl, rfl⟩
/-- The cells of a mark in a row of the call's own. -/
theorem mk_own {R : Rd} {h : Hp} (j : Nat) {A : Option Addr} {q n cap : Nat} {e : TypeId} {fz : Nat × Nat} {l : List Mk} (hA : A = some ⟨q, 0, .none⟩) (hj : h[j]? = some (.row A n cap e 11 (mks l) fz)) {i : Nat} {y : Mk} (hy : l[i]? = some y) : ∀ k u, y.cells[k]? = some u → RH R h ((⟨q, 0, .none⟩ : Addr).add (i * 11 + k)) u := by
  intro k u hu
  rw [add_zero_addr]
  refine .inr ⟨_, List.mem_of_getElem? hj, ?_⟩
  show rowCell A (mks l) _ _
  rw [hA]
  exact ⟨rfl, rfl, flatAt (c := Mk.cells) (fun _ _ => rfl) hy hu⟩

/-- The list after the first marks of the other one. -/
def mrgK (C D : Lg) (k : Nat) : List Mk := flatC (mergeC C (toC ((flatC D).take k)))
theorem mrgK0 (C D : Lg) : mrgK C D 0 = flatC C := by
  have e : mergeC C (toC ((flatC D).take 0)) = C := by funext v; exact mrgL_nil _
  rw [mrgK, e]
def agK (C D : Lg) (k : Nat) : Prop := ∀ v, agreeB (C v) (toC ((flatC D).take k) v) = true
theorem mrg_stepK {C D : Lg} (hC : GoodC C) (hD : GoodC D) {k : Nat} {m : Mk} (hget : (flatC D)[k]? = some m) (hag : agK C D k) :
    (rFind (mrgK C D k) m.s.w m.s.q = .none ∧ rPut (mrgK C D k) m = mrgK C D (k + 1) ∧ agK C D (k + 1)) ∨
    (∃ (i : Nat) (x : Rec), rFind (mrgK C D k) m.s.w m.s.q = some i ∧ (mrgK C D k)[i]? = some x.mk' ∧ x.s.hd = false ∧ (¬ x.s = m.s.bare → agreesB C D = false) ∧
      (x.s = m.s.bare → (mrgK C D k).set i (mrg1 x (toRec m)).mk' = mrgK C D (k + 1) ∧ agK C D (k + 1))) := mrg_step hC hD hget hag

theorem setMk {l : List Mk} {i : Nat} {y y' : Mk} {qa o : Nat} {f : Bool} {k : Nat} (hy : l[i]? = some y) (hk : k < 11) (ho : o = i * 11 + k) (h : y'.cells = y.cells.set k (.bool f)) : setRange (mks l) o (cls (.bool f)) = mks (l.set i y') := by
  subst ho
  rw [← mks_set hk h hy]; rfl

set_option maxRecDepth 100000 in
set_option maxHeartbeats 8000000 in
theorem refMerge_core (R : Rd) {A B : Option Addr} {cap capB : Nat} {C D : Lg} (hs : MkR R A cap (flatC C)) (ht : MkR R B capB (flatC D)) (hC : GoodC C) (hD : GoodC D) (hn : countC C + countC D ≤ 4096) :
    Fn Tryd.prog 31 [.slice A (flatC C).length cap, .slice B (flatC D).length capB] [] R (fun v h => ∃ u, v = .tuple ⟨[u, .int .i64 (mergeR C D).2]⟩ ∧ Nw A cap (flatC C) (flatC (mergeR C D).1) u h) := by
  have hML := maxLen_eq
  have hlC := flatC_length C
  have hlD := flatC_length D
  have hcm := count_le_merge C D
  refine fn_of_vc mixed tabOk Tryd.func31 rfl (by kernel_rfl) (Nat.le_of_ble_eq_true rfl) ?_
  refine ⟨rfl, fun g0 => ?_⟩
  refine ⟨mks (flatC C), mks_length _, hs.srcH, mks_one _, by show (_ + _) * 104 ≤ _; omega, by omega, .inr ⟨0, rfl, rfl, rfl, rfl, rfl, rfl, fun A1 cap1 hg1 => ?_⟩⟩
  refine ⟨[none, none, none, none, some 4, some 5, some 6, some 7, some 8, none, none, none, some 12, some 13, some 14, some 15, some 16, some 17, some 18, some 19, some 20, some 21, some 22, some 23, some 24, some 25, some 26, some 27, some 28, some 29, some 30, some 31, some 32, some 33, some 34, some 35, some 36, some 37, some 38, some 39, some 40, some 41, some 42, some 43, some 44, some 45, some 46, some 47, some 48, some 49, some 50, some 51, some 52, some 53, some 54, some 55, some 56, some 57, some 58, some 59, some 60, some 61, some 62, some 63, some 64, some 65, some 66, some 67, some 68, some 69, some 70, some 71, some 72, some 73, some 74, some 75, some 76, some 77, some 78, some 79, some 80, some 81, some 82, some 83, some 84, some 85, some 86, some 87, some 88, some 89, some 90, some 91, some 92, some 93, some 94, some 95], [6, 7], Option Addr × Nat × Nat × Nat, fun ⟨A', cap', n, k⟩ => k ≤ (flatC D).length ∧ agK C D k ∧ n = (mrgK C D k).length ∧ grow n A', fun ⟨A', cap', n, k⟩ => [.slice A' n cap', .int .i64 k],
    fun ⟨A', cap', n, k⟩ => [.row A' n cap' 107 11 (mks (mrgK C D k)) (0, 0)], fun ⟨_, _, _, k⟩ => (flatC D).length - k, (A1, cap1, 0 + (flatC C).length, 0), ⟨Nat.zero_le _, fun v => ?_, ?_, hg1⟩, ⟨rfl, rfl, trivial⟩, ?_, ?_⟩
  · show agreeB (C v) [] = true
    cases C v <;> rfl
  · show 0 + (flatC C).length = (mrgK C D 0).length
    rw [mrgK0]; omega
  · show Ent _ [.row A1 (0 + (flatC C).length) cap1 107 11 (mks (mrgK C D 0)) (0, 0)]
    rw [mrgK0]
    exact Ent.refl _
  rintro ⟨A', cap', n, k⟩ ⟨hk, hag, hnl, hg⟩ js
  have hnl : n = (mrgK C D k).length := hnl
  have hnn : n ≤ 4096 := by
    have h1 := count_le_merge C (toC ((flatC D).take k))
    have h2 := take_count hD k
    rw [hnl, mrgK, flatC_length]; omega
  refine ⟨fun hb0 => ?_, fun hb0 => ?_⟩
  · have hb1 := of_decide_eq_true hb0
    have hil : k < (flatC D).length := by omega
    clear hb0 hb1
    have hget := List.getElem?_eq_getElem hil
    generalize (flatC D)[k] = m at hget
    obtain ⟨pb, hB, hr⟩ := slr_at (c := Mk.cells) (fun _ => rfl) (by omega) ht hget
    have hstp := mrg_stepK hC hD hget hag
    subst hnl
    refine ⟨[], (.q 0 (.q 1 (.q 2 (.q 3 (.q 4 (.q 5 (.q 6 (.q 7 (.q 8 (.q 9 (.q 10 (.q 11 (.q 12 (.one 13 (.q 14 .nil))))))))))))))), by kernel_rfl, ?_⟩
    refine ⟨by omega, by omega, pb, hB, ?_⟩
    refine ⟨_, .inl (fldS (hr 0 _ rfl)), ?_⟩
    refine ⟨by omega, by omega, pb, hB, ?_⟩
    refine ⟨_, .inl (fldS (hr 1 _ rfl)), ?_⟩
    refine ⟨[], _, reffind_ok _ (SlR.own 0 rfl (mks_length _) hg) (by omega) m.s.w m.s.q, ?_⟩
    rintro _ _ ⟨rfl, rfl⟩
    rcases hstp with ⟨hf, hput, hag2⟩ | ⟨i, x, hf, hgi, hxh, hne, heq⟩
    · rw [hf]
      have hm : idxV .none < 0 := by decide
      repeat (first | (refine ⟨fun h => ?_, fun h => ?_⟩; rotate_left 1; (focus (exfalso; (first | (with_reducible (cases h; done)) | (revert h; simp; done) | (revert h; simp; omega) | (revert h; simp [*]; done)))); clear h) | (refine ⟨fun h => ?_, fun h => ?_⟩; (focus (exfalso; (first | (with_reducible (cases h; done)) | (revert h; simp; done) | (revert h; simp; omega) | (revert h; simp [*]; done)))); clear h))
      refine ⟨by omega, by omega, pb, hB, ?_⟩
      refine ⟨m.cells, fun j u hu => .inl (rdnS (vs := m.cells) (fun j u hu => hr j u hu) j u hu), rfl, ?_⟩
      refine ⟨[0], _, refput_own _ (by omega) rfl hg m, ?_⟩
      have hpl := rPut_length (mrgK C D k) m
      rw [hput] at hpl ⊢
      rintro _ _ ⟨A2, cap2, hg2, rfl, rfl⟩
      (intro z hz; obtain rfl : z = ((k + 1 : Nat) : Int) := (by first | (rw [IntKind.wrap_i64] at hz; omega) | (rw [IntKind.wrap_u64] at hz; omega) | omega); clear hz)
      exact ⟨rfl, (A2, cap2, (mrgK C D k).length + 1, k + 1), ⟨hil, hag2, hpl.symm, hg2⟩, by show (flatC D).length - (k + 1) < (flatC D).length - k; omega, ⟨rfl, rfl, trivial⟩, Ent.refl _, rfl⟩
    · rw [hf]
      have hi0 : idxV (some i) = (i : Int) := rfl
      rw [hi0]
      have hil2 := (List.getElem?_eq_some_iff.1 hgi).1
      obtain ⟨qa, hA'⟩ := growA hg (by omega)
      repeat (first | (refine ⟨fun h => ?_, fun h => ?_⟩; rotate_left 1; (focus (exfalso; (first | (with_reducible (cases h; done)) | (revert h; simp; done) | (revert h; simp; omega) | (revert h; simp [*]; done)))); clear h) | (refine ⟨fun h => ?_, fun h => ?_⟩; (focus (exfalso; (first | (with_reducible (cases h; done)) | (revert h; simp; done) | (revert h; simp; omega) | (revert h; simp [*]; done)))); clear h))
      refine ⟨[0], (.q 0 (.q 1 (.q 2 (.q 3 (.q 4 (.q 5 (.q 6 (.q 7 (.q 8 (.q 9 (.one 10 (.q 11 .nil)))))))))))), by kernel_rfl, ?_⟩
      refine ⟨by omega, by omega, ⟨qa, 0, .none⟩, hA', ?_⟩
      refine ⟨x.mk'.s.cells, rdnS (vs := x.mk'.s.cells) (fun j u hu => mk_own 0 hA' rfl hgi j u (x.mk'.pre hu)), rfl, ?_⟩
      refine ⟨by omega, by omega, pb, hB, ?_⟩
      refine ⟨m.s.cells, fun j u hu => .inl (rdnS (vs := m.s.cells) (fun j u hu => hr j u (m.pre hu)) j u hu), rfl, ?_⟩
      refine ⟨[], _, Same_ok _ x.mk'.s m.s, ?_⟩
      rintro _ _ ⟨e, rfl, hee, rfl⟩
      have hxb : x.mk'.s.bare = x.s := Snap.ext' rfl rfl rfl rfl rfl rfl rfl rfl rfl hxh.symm
      rw [hxb] at hee
      cases e
      · have hmr : mergeR C D = (C, 13) := by
          unfold mergeR
          rw [hne fun h => by have := hee.2 h; cases this]; rfl
        rw [hmr]
        repeat (first | (refine ⟨fun h => ?_, fun h => ?_⟩; rotate_left 1; (focus (exfalso; (first | (with_reducible (cases h; done)) | (revert h; simp; done) | (revert h; simp; omega) | (revert h; simp [*]; done)))); clear h) | (refine ⟨fun h => ?_, fun h => ?_⟩; (focus (exfalso; (first | (with_reducible (cases h; done)) | (revert h; simp; done) | (revert h; simp; omega) | (revert h; simp [*]; done)))); clear h))
        exact ⟨_, Ent.nil _, _, rfl, Nw.old A cap (flatC C)⟩
      · obtain ⟨hset, hag2⟩ := heq (hee.1 rfl)
        repeat (first | (refine ⟨fun h => ?_, fun h => ?_⟩; rotate_left 1; (focus (exfalso; (first | (with_reducible (cases h; done)) | (revert h; simp; done) | (revert h; simp; omega) | (revert h; simp [*]; done)))); clear h) | (refine ⟨fun h => ?_, fun h => ?_⟩; (focus (exfalso; (first | (with_reducible (cases h; done)) | (revert h; simp; done) | (revert h; simp; omega) | (revert h; simp [*]; done)))); clear h))
        refine ⟨by omega, by omega, ⟨qa, 0, .none⟩, hA', ?_⟩
        refine ⟨.bool x.fo, fldS (mk_own 0 hA' rfl hgi 10 _ rfl), ?_⟩
        cases hxf : x.fo
        · repeat (first | (refine ⟨fun h => ?_, fun h => ?_⟩; rotate_left 1; (focus (exfalso; (first | (with_reducible (cases h; done)) | (revert h; simp; done) | (revert h; simp; omega) | (revert h; simp [*]; done)))); clear h) | (refine ⟨fun h => ?_, fun h => ?_⟩; (focus (exfalso; (first | (with_reducible (cases h; done)) | (revert h; simp; done) | (revert h; simp; omega) | (revert h; simp [*]; done)))); clear h))
          refine ⟨by omega, by omega, pb, hB, ?_⟩
          repeat (first | (refine ⟨fun h => ?_, fun h => ?_⟩; rotate_left 1; (focus (exfalso; (first | (with_reducible (cases h; done)) | (revert h; simp; done) | (revert h; simp; omega) | (revert h; simp [*]; done)))); clear h) | (refine ⟨fun h => ?_, fun h => ?_⟩; (focus (exfalso; (first | (with_reducible (cases h; done)) | (revert h; simp; done) | (revert h; simp; omega) | (revert h; simp [*]; done)))); clear h))
          refine ⟨_, .inl (fldS (hr 10 _ rfl)), ?_⟩
          repeat (first | (refine ⟨fun h => ?_, fun h => ?_⟩; rotate_left 1; (focus (exfalso; (first | (with_reducible (cases h; done)) | (revert h; simp; done) | (revert h; simp; omega) | (revert h; simp [*]; done)))); clear h) | (refine ⟨fun h => ?_, fun h => ?_⟩; (focus (exfalso; (first | (with_reducible (cases h; done)) | (revert h; simp; done) | (revert h; simp; omega) | (revert h; simp [*]; done)))); clear h))
          cases hmf : m.fo
          · refine ⟨by omega, by omega, ⟨qa, 0, .none⟩, hA', ?_⟩
            rw [show Int.toNat (i : Int) = i from rfl, show addA (⟨qa, 0, .none⟩ : Addr) (i * ti107.size) = ⟨qa, i * 11, .none⟩ from (addA_mrk qa i 0).1]
            refine ⟨rfl, rfl, 0, hA', by rw [(addA_mrk qa i 10).2], by rw [(addA_mrk qa i 10).2]; show i * 11 + 10 + 1 ≤ (mks _).length; rw [mks_length]; omega, ?_⟩
            rw [setMk (l := mrgK C D k) (y := x.mk') (y' := ⟨x.mk'.s, false⟩) (qa := qa) (i := i) (k := 10) hgi (by decide) (by rw [(addA_mrk qa i 10).2]) rfl]
            have hgs : ((mrgK C D k).set i ⟨x.mk'.s, false⟩)[i]? = some ⟨x.mk'.s, false⟩ := List.getElem?_set_self hil2
            refine ⟨by omega, by omega, ⟨qa, 0, .none⟩, hA', ?_⟩
            refine ⟨.bool x.he, fldS (mk_own 0 hA' rfl hgs 9 _ rfl), ?_⟩
            cases hxe : x.he
            · repeat (first | (refine ⟨fun h => ?_, fun h => ?_⟩; rotate_left 1; (focus (exfalso; (first | (with_reducible (cases h; done)) | (revert h; simp; done) | (revert h; simp; omega) | (revert h; simp [*]; done)))); clear h) | (refine ⟨fun h => ?_, fun h => ?_⟩; (focus (exfalso; (first | (with_reducible (cases h; done)) | (revert h; simp; done) | (revert h; simp; omega) | (revert h; simp [*]; done)))); clear h))
              refine ⟨by omega, by omega, pb, hB, ?_⟩
              repeat (first | (refine ⟨fun h => ?_, fun h => ?_⟩; rotate_left 1; (focus (exfalso; (first | (with_reducible (cases h; done)) | (revert h; simp; done) | (revert h; simp; omega) | (revert h; simp [*]; done)))); clear h) | (refine ⟨fun h => ?_, fun h => ?_⟩; (focus (exfalso; (first | (with_reducible (cases h; done)) | (revert h; simp; done) | (revert h; simp; omega) | (revert h; simp [*]; done)))); clear h))
              refine ⟨_, .inl (fldS (hr 9 _ rfl)), ?_⟩
              repeat (first | (refine ⟨fun h => ?_, fun h => ?_⟩; rotate_left 1; (focus (exfalso; (first | (with_reducible (cases h; done)) | (revert h; simp; done) | (revert h; simp; omega) | (revert h; simp [*]; done)))); clear h) | (refine ⟨fun h => ?_, fun h => ?_⟩; (focus (exfalso; (first | (with_reducible (cases h; done)) | (revert h; simp; done) | (revert h; simp; omega) | (revert h; simp [*]; done)))); clear h))
              cases hmh : m.s.hd
              · have hm1 : (mrg1 x (toRec m)).mk' = ⟨{ x.s with hd := false }, false⟩ := by unfold mrg1 toRec Rec.mk' Rec.shown; simp only [hxf, hmf]; simp only [hxe, hmh]; rfl
                repeat (first | (refine ⟨fun h => ?_, fun h => ?_⟩; rotate_left 1; (focus (exfalso; (first | (with_reducible (cases h; done)) | (revert h; simp; done) | (revert h; simp; omega) | (revert h; simp [*]; done)))); clear h) | (refine ⟨fun h => ?_, fun h => ?_⟩; (focus (exfalso; (first | (with_reducible (cases h; done)) | (revert h; simp; done) | (revert h; simp; omega) | (revert h; simp [*]; done)))); clear h))
                refine ⟨by omega, by omega, ⟨qa, 0, .none⟩, hA', ?_⟩
                rw [show Int.toNat (i : Int) = i from rfl, show addA (⟨qa, 0, .none⟩ : Addr) (i * ti107.size) = ⟨qa, i * 11, .none⟩ from (addA_mrk qa i 0).1]
                refine ⟨rfl, rfl, 0, hA', by rw [(addA_mrk qa i 0).2]; rfl, by rw [(addA_mrk qa i 0).2]; show i * 11 + 9 + 1 ≤ (mks _).length; rw [mks_length, List.length_set]; omega, ?_⟩
                rw [setMk (l := (mrgK C D k).set i ⟨x.mk'.s, false⟩) (y := ⟨x.mk'.s, false⟩) (y' := ⟨{ x.s with hd := false }, false⟩) (qa := qa) (i := i) (k := 9) (List.getElem?_set_self hil2) (by decide) (by rw [(addA_mrk qa i 0).2]; rfl) rfl]
                (intro z hz; obtain rfl : z = ((k + 1 : Nat) : Int) := (by first | (rw [IntKind.wrap_i64] at hz; omega) | (rw [IntKind.wrap_u64] at hz; omega) | omega); clear hz)
                refine ⟨rfl, (A', cap', (mrgK C D k).length, k + 1), ⟨hil, hag2, by rw [← hset, List.length_set], hg⟩, by show (flatC D).length - (k + 1) < (flatC D).length - k; omega, ⟨rfl, rfl, trivial⟩, ?_, rfl⟩
                show Ent _ [.row A' _ cap' 107 11 (mks (mrgK C D (k + 1))) (0, 0)]
                rw [← hset, hm1, List.set_set]
                exact Ent.refl _
              · have hm1 : (mrg1 x (toRec m)).mk' = ⟨{ x.s with hd := !false }, false⟩ := by unfold mrg1 toRec Rec.mk' Rec.shown; simp only [hxf, hmf]; simp only [hxe, hmh]; rfl
                repeat (first | (refine ⟨fun h => ?_, fun h => ?_⟩; rotate_left 1; (focus (exfalso; (first | (with_reducible (cases h; done)) | (revert h; simp; done) | (revert h; simp; omega) | (revert h; simp [*]; done)))); clear h) | (refine ⟨fun h => ?_, fun h => ?_⟩; (focus (exfalso; (first | (with_reducible (cases h; done)) | (revert h; simp; done) | (revert h; simp; omega) | (revert h; simp [*]; done)))); clear h))
                refine ⟨by omega, by omega, ⟨qa, 0, .none⟩, hA', ?_⟩
                repeat (first | (refine ⟨fun h => ?_, fun h => ?_⟩; rotate_left 1; (focus (exfalso; (first | (with_reducible (cases h; done)) | (revert h; simp; done) | (revert h; simp; omega) | (revert h; simp [*]; done)))); clear h) | (refine ⟨fun h => ?_, fun h => ?_⟩; (focus (exfalso; (first | (with_reducible (cases h; done)) | (revert h; simp; done) | (revert h; simp; omega) | (revert h; simp [*]; done)))); clear h))
                refine ⟨.bool false, fldS (mk_own 0 hA' rfl hgs 10 _ rfl), ?_⟩
                repeat (first | (refine ⟨fun h => ?_, fun h => ?_⟩; rotate_left 1; (focus (exfalso; (first | (with_reducible (cases h; done)) | (revert h; simp; done) | (revert h; simp; omega) | (revert h; simp [*]; done)))); clear h) | (refine ⟨fun h => ?_, fun h => ?_⟩; (focus (exfalso; (first | (with_reducible (cases h; done)) | (revert h; simp; done) | (revert h; simp; omega) | (revert h; simp [*]; done)))); clear h))
                refine ⟨by omega, by omega, ⟨qa, 0, .none⟩, hA', ?_⟩
                rw [show Int.toNat (i : Int) = i from rfl, show addA (⟨qa, 0, .none⟩ : Addr) (i * ti107.size) = ⟨qa, i * 11, .none⟩ from (addA_mrk qa i 0).1]
                refine ⟨rfl, rfl, 0, hA', by rw [(addA_mrk qa i 0).2]; rfl, by rw [(addA_mrk qa i 0).2]; show i * 11 + 9 + 1 ≤ (mks _).length; rw [mks_length, List.length_set]; omega, ?_⟩
                rw [setMk (l := (mrgK C D k).set i ⟨x.mk'.s, false⟩) (y := ⟨x.mk'.s, false⟩) (y' := ⟨{ x.s with hd := (!false) }, false⟩) (qa := qa) (i := i) (k := 9) (List.getElem?_set_self hil2) (by decide) (by rw [(addA_mrk qa i 0).2]; rfl) rfl]
                (intro z hz; obtain rfl : z = ((k + 1 : Nat) : Int) := (by first | (rw [IntKind.wrap_i64] at hz; omega) | (rw [IntKind.wrap_u64] at hz; omega) | omega); clear hz)
                refine ⟨rfl, (A', cap', (mrgK C D k).length, k + 1), ⟨hil, hag2, by rw [← hset, List.length_set], hg⟩, by show (flatC D).length - (k + 1) < (flatC D).length - k; omega, ⟨rfl, rfl, trivial⟩, ?_, rfl⟩
                show Ent _ [.row A' _ cap' 107 11 (mks (mrgK C D (k + 1))) (0, 0)]
                rw [← hset, hm1, List.set_set]
                exact Ent.refl _
            · have hm1 : (mrg1 x (toRec m)).mk' = ⟨{ x.s with hd := !false }, false⟩ := by unfold mrg1 toRec Rec.mk' Rec.shown; simp only [hxf, hmf]; simp only [hxe]; rfl
              repeat (first | (refine ⟨fun h => ?_, fun h => ?_⟩; rotate_left 1; (focus (exfalso; (first | (with_reducible (cases h; done)) | (revert h; simp; done) | (revert h; simp; omega) | (revert h; simp [*]; done)))); clear h) | (refine ⟨fun h => ?_, fun h => ?_⟩; (focus (exfalso; (first | (with_reducible (cases h; done)) | (revert h; simp; done) | (revert h; simp; omega) | (revert h; simp [*]; done)))); clear h))
              refine ⟨by omega, by omega, ⟨qa, 0, .none⟩, hA', ?_⟩
              repeat (first | (refine ⟨fun h => ?_, fun h => ?_⟩; rotate_left 1; (focus (exfalso; (first | (with_reducible (cases h; done)) | (revert h; simp; done) | (revert h; simp; omega) | (revert h; simp [*]; done)))); clear h) | (refine ⟨fun h => ?_, fun h => ?_⟩; (focus (exfalso; (first | (with_reducible (cases h; done)) | (revert h; simp; done) | (revert h; simp; omega) | (revert h; simp [*]; done)))); clear h))
              refine ⟨.bool false, fldS (mk_own 0 hA' rfl hgs 10 _ rfl), ?_⟩
              repeat (first | (refine ⟨fun h => ?_, fun h => ?_⟩; rotate_left 1; (focus (exfalso; (first | (with_reducible (cases h; done)) | (revert h; simp; done) | (revert h; simp; omega) | (revert h; simp [*]; done)))); clear h) | (refine ⟨fun h => ?_, fun h => ?_⟩; (focus (exfalso; (first | (with_reducible (cases h; done)) | (revert h; simp; done) | (revert h; simp; omega) | (revert h; simp [*]; done)))); clear h))
              refine ⟨by omega, by omega, ⟨qa, 0, .none⟩, hA', ?_⟩
              rw [show Int.toNat (i : Int) = i from rfl, show addA (⟨qa, 0, .none⟩ : Addr) (i * ti107.size) = ⟨qa, i * 11, .none⟩ from (addA_mrk qa i 0).1]
              refine ⟨rfl, rfl, 0, hA', by rw [(addA_mrk qa i 0).2]; rfl, by rw [(addA_mrk qa i 0).2]; show i * 11 + 9 + 1 ≤ (mks _).length; rw [mks_length, List.length_set]; omega, ?_⟩
              rw [setMk (l := (mrgK C D k).set i ⟨x.mk'.s, false⟩) (y := ⟨x.mk'.s, false⟩) (y' := ⟨{ x.s with hd := (!false) }, false⟩) (qa := qa) (i := i) (k := 9) (List.getElem?_set_self hil2) (by decide) (by rw [(addA_mrk qa i 0).2]; rfl) rfl]
              (intro z hz; obtain rfl : z = ((k + 1 : Nat) : Int) := (by first | (rw [IntKind.wrap_i64] at hz; omega) | (rw [IntKind.wrap_u64] at hz; omega) | omega); clear hz)
              refine ⟨rfl, (A', cap', (mrgK C D k).length, k + 1), ⟨hil, hag2, by rw [← hset, List.length_set], hg⟩, by show (flatC D).length - (k + 1) < (flatC D).length - k; omega, ⟨rfl, rfl, trivial⟩, ?_, rfl⟩
              show Ent _ [.row A' _ cap' 107 11 (mks (mrgK C D (k + 1))) (0, 0)]
              rw [← hset, hm1, List.set_set]
              exact Ent.refl _
          · refine ⟨by omega, by omega, ⟨qa, 0, .none⟩, hA', ?_⟩
            rw [show Int.toNat (i : Int) = i from rfl, show addA (⟨qa, 0, .none⟩ : Addr) (i * ti107.size) = ⟨qa, i * 11, .none⟩ from (addA_mrk qa i 0).1]
            refine ⟨rfl, rfl, 0, hA', by rw [(addA_mrk qa i 10).2], by rw [(addA_mrk qa i 10).2]; show i * 11 + 10 + 1 ≤ (mks _).length; rw [mks_length]; omega, ?_⟩
            rw [setMk (l := mrgK C D k) (y := x.mk') (y' := ⟨x.mk'.s, true⟩) (qa := qa) (i := i) (k := 10) hgi (by decide) (by rw [(addA_mrk qa i 10).2]) rfl]
            have hgs : ((mrgK C D k).set i ⟨x.mk'.s, true⟩)[i]? = some ⟨x.mk'.s, true⟩ := List.getElem?_set_self hil2
            refine ⟨by omega, by omega, ⟨qa, 0, .none⟩, hA', ?_⟩
            refine ⟨.bool x.he, fldS (mk_own 0 hA' rfl hgs 9 _ rfl), ?_⟩
            cases hxe : x.he
            · repeat (first | (refine ⟨fun h => ?_, fun h => ?_⟩; rotate_left 1; (focus (exfalso; (first | (with_reducible (cases h; done)) | (revert h; simp; done) | (revert h; simp; omega) | (revert h; simp [*]; done)))); clear h) | (refine ⟨fun h => ?_, fun h => ?_⟩; (focus (exfalso; (first | (with_reducible (cases h; done)) | (revert h; simp; done) | (revert h; simp; omega) | (revert h; simp [*]; done)))); clear h))
              refine ⟨by omega, by omega, pb, hB, ?_⟩
              repeat (first | (refine ⟨fun h => ?_, fun h => ?_⟩; rotate_left 1; (focus (exfalso; (first | (with_reducible (cases h; done)) | (revert h; simp; done) | (revert h; simp; omega) | (revert h; simp [*]; done)))); clear h) | (refine ⟨fun h => ?_, fun h => ?_⟩; (focus (exfalso; (first | (with_reducible (cases h; done)) | (revert h; simp; done) | (revert h; simp; omega) | (revert h; simp [*]; done)))); clear h))
              refine ⟨_, .inl (fldS (hr 9 _ rfl)), ?_⟩
              repeat (first | (refine ⟨fun h => ?_, fun h => ?_⟩; rotate_left 1; (focus (exfalso; (first | (with_reducible (cases h; done)) | (revert h; simp; done) | (revert h; simp; omega) | (revert h; simp [*]; done)))); clear h) | (refine ⟨fun h => ?_, fun h => ?_⟩; (focus (exfalso; (first | (with_reducible (cases h; done)) | (revert h; simp; done) | (revert h; simp; omega) | (revert h; simp [*]; done)))); clear h))
              cases hmh : m.s.hd
              · have hm1 : (mrg1 x (toRec m)).mk' = ⟨{ x.s with hd := false }, true⟩ := by unfold mrg1 toRec Rec.mk' Rec.shown; simp only [hxf, hmf]; simp only [hxe, hmh]; rfl
                repeat (first | (refine ⟨fun h => ?_, fun h => ?_⟩; rotate_left 1; (focus (exfalso; (first | (with_reducible (cases h; done)) | (revert h; simp; done) | (revert h; simp; omega) | (revert h; simp [*]; done)))); clear h) | (refine ⟨fun h => ?_, fun h => ?_⟩; (focus (exfalso; (first | (with_reducible (cases h; done)) | (revert h; simp; done) | (revert h; simp; omega) | (revert h; simp [*]; done)))); clear h))
                refine ⟨by omega, by omega, ⟨qa, 0, .none⟩, hA', ?_⟩
                rw [show Int.toNat (i : Int) = i from rfl, show addA (⟨qa, 0, .none⟩ : Addr) (i * ti107.size) = ⟨qa, i * 11, .none⟩ from (addA_mrk qa i 0).1]
                refine ⟨rfl, rfl, 0, hA', by rw [(addA_mrk qa i 0).2]; rfl, by rw [(addA_mrk qa i 0).2]; show i * 11 + 9 + 1 ≤ (mks _).length; rw [mks_length, List.length_set]; omega, ?_⟩
                rw [setMk (l := (mrgK C D k).set i ⟨x.mk'.s, true⟩) (y := ⟨x.mk'.s, true⟩) (y' := ⟨{ x.s with hd := false }, true⟩) (qa := qa) (i := i) (k := 9) (List.getElem?_set_self hil2) (by decide) (by rw [(addA_mrk qa i 0).2]; rfl) rfl]
                (intro z hz; obtain rfl : z = ((k + 1 : Nat) : Int) := (by first | (rw [IntKind.wrap_i64] at hz; omega) | (rw [IntKind.wrap_u64] at hz; omega) | omega); clear hz)
                refine ⟨rfl, (A', cap', (mrgK C D k).length, k + 1), ⟨hil, hag2, by rw [← hset, List.length_set], hg⟩, by show (flatC D).length - (k + 1) < (flatC D).length - k; omega, ⟨rfl, rfl, trivial⟩, ?_, rfl⟩
                show Ent _ [.row A' _ cap' 107 11 (mks (mrgK C D (k + 1))) (0, 0)]
                rw [← hset, hm1, List.set_set]
                exact Ent.refl _
              · have hm1 : (mrg1 x (toRec m)).mk' = ⟨{ x.s with hd := !true }, true⟩ := by unfold mrg1 toRec Rec.mk' Rec.shown; simp only [hxf, hmf]; simp only [hxe, hmh]; rfl
                repeat (first | (refine ⟨fun h => ?_, fun h => ?_⟩; rotate_left 1; (focus (exfalso; (first | (with_reducible (cases h; done)) | (revert h; simp; done) | (revert h; simp; omega) | (revert h; simp [*]; done)))); clear h) | (refine ⟨fun h => ?_, fun h => ?_⟩; (focus (exfalso; (first | (with_reducible (cases h; done)) | (revert h; simp; done) | (revert h; simp; omega) | (revert h; simp [*]; done)))); clear h))
                refine ⟨by omega, by omega, ⟨qa, 0, .none⟩, hA', ?_⟩
                repeat (first | (refine ⟨fun h => ?_, fun h => ?_⟩; rotate_left 1; (focus (exfalso; (first | (with_reducible (cases h; done)) | (revert h; simp; done) | (revert h; simp; omega) | (revert h; simp [*]; done)))); clear h) | (refine ⟨fun h => ?_, fun h => ?_⟩; (focus (exfalso; (first | (with_reducible (cases h; done)) | (revert h; simp; done) | (revert h; simp; omega) | (revert h; simp [*]; done)))); clear h))
                refine ⟨.bool true, fldS (mk_own 0 hA' rfl hgs 10 _ rfl), ?_⟩
                repeat (first | (refine ⟨fun h => ?_, fun h => ?_⟩; rotate_left 1; (focus (exfalso; (first | (with_reducible (cases h; done)) | (revert h; simp; done) | (revert h; simp; omega) | (revert h; simp [*]; done)))); clear h) | (refine ⟨fun h => ?_, fun h => ?_⟩; (focus (exfalso; (first | (with_reducible (cases h; done)) | (revert h; simp; done) | (revert h; simp; omega) | (revert h; simp [*]; done)))); clear h))
                refine ⟨by omega, by omega, ⟨qa, 0, .none⟩, hA', ?_⟩
                rw [show Int.toNat (i : Int) = i from rfl, show addA (⟨qa, 0, .none⟩ : Addr) (i * ti107.size) = ⟨qa, i * 11, .none⟩ from (addA_mrk qa i 0).1]
                refine ⟨rfl, rfl, 0, hA', by rw [(addA_mrk qa i 0).2]; rfl, by rw [(addA_mrk qa i 0).2]; show i * 11 + 9 + 1 ≤ (mks _).length; rw [mks_length, List.length_set]; omega, ?_⟩
                rw [setMk (l := (mrgK C D k).set i ⟨x.mk'.s, true⟩) (y := ⟨x.mk'.s, true⟩) (y' := ⟨{ x.s with hd := (!true) }, true⟩) (qa := qa) (i := i) (k := 9) (List.getElem?_set_self hil2) (by decide) (by rw [(addA_mrk qa i 0).2]; rfl) rfl]
                (intro z hz; obtain rfl : z = ((k + 1 : Nat) : Int) := (by first | (rw [IntKind.wrap_i64] at hz; omega) | (rw [IntKind.wrap_u64] at hz; omega) | omega); clear hz)
                refine ⟨rfl, (A', cap', (mrgK C D k).length, k + 1), ⟨hil, hag2, by rw [← hset, List.length_set], hg⟩, by show (flatC D).length - (k + 1) < (flatC D).length - k; omega, ⟨rfl, rfl, trivial⟩, ?_, rfl⟩
                show Ent _ [.row A' _ cap' 107 11 (mks (mrgK C D (k + 1))) (0, 0)]
                rw [← hset, hm1, List.set_set]
                exact Ent.refl _
            · have hm1 : (mrg1 x (toRec m)).mk' = ⟨{ x.s with hd := !true }, true⟩ := by unfold mrg1 toRec Rec.mk' Rec.shown; simp only [hxf, hmf]; simp only [hxe]; rfl
              repeat (first | (refine ⟨fun h => ?_, fun h => ?_⟩; rotate_left 1; (focus (exfalso; (first | (with_reducible (cases h; done)) | (revert h; simp; done) | (revert h; simp; omega) | (revert h; simp [*]; done)))); clear h) | (refine ⟨fun h => ?_, fun h => ?_⟩; (focus (exfalso; (first | (with_reducible (cases h; done)) | (revert h; simp; done) | (revert h; simp; omega) | (revert h; simp [*]; done)))); clear h))
              refine ⟨by omega, by omega, ⟨qa, 0, .none⟩, hA', ?_⟩
              repeat (first | (refine ⟨fun h => ?_, fun h => ?_⟩; rotate_left 1; (focus (exfalso; (first | (with_reducible (cases h; done)) | (revert h; simp; done) | (revert h; simp; omega) | (revert h; simp [*]; done)))); clear h) | (refine ⟨fun h => ?_, fun h => ?_⟩; (focus (exfalso; (first | (with_reducible (cases h; done)) | (revert h; simp; done) | (revert h; simp; omega) | (revert h; simp [*]; done)))); clear h))
              refine ⟨.bool true, fldS (mk_own 0 hA' rfl hgs 10 _ rfl), ?_⟩
              repeat (first | (refine ⟨fun h => ?_, fun h => ?_⟩; rotate_left 1; (focus (exfalso; (first | (with_reducible (cases h; done)) | (revert h; simp; done) | (revert h; simp; omega) | (revert h; simp [*]; done)))); clear h) | (refine ⟨fun h => ?_, fun h => ?_⟩; (focus (exfalso; (first | (with_reducible (cases h; done)) | (revert h; simp; done) | (revert h; simp; omega) | (revert h; simp [*]; done)))); clear h))
              refine ⟨by omega, by omega, ⟨qa, 0, .none⟩, hA', ?_⟩
              rw [show Int.toNat (i : Int) = i from rfl, show addA (⟨qa, 0, .none⟩ : Addr) (i * ti107.size) = ⟨qa, i * 11, .none⟩ from (addA_mrk qa i 0).1]
              refine ⟨rfl, rfl, 0, hA', by rw [(addA_mrk qa i 0).2]; rfl, by rw [(addA_mrk qa i 0).2]; show i * 11 + 9 + 1 ≤ (mks _).length; rw [mks_length, List.length_set]; omega, ?_⟩
              rw [setMk (l := (mrgK C D k).set i ⟨x.mk'.s, true⟩) (y := ⟨x.mk'.s, true⟩) (y' := ⟨{ x.s with hd := (!true) }, true⟩) (qa := qa) (i := i) (k := 9) (List.getElem?_set_self hil2) (by decide) (by rw [(addA_mrk qa i 0).2]; rfl) rfl]
              (intro z hz; obtain rfl : z = ((k + 1 : Nat) : Int) := (by first | (rw [IntKind.wrap_i64] at hz; omega) | (rw [IntKind.wrap_u64] at hz; omega) | omega); clear hz)
              refine ⟨rfl, (A', cap', (mrgK C D k).length, k + 1), ⟨hil, hag2, by rw [← hset, List.length_set], hg⟩, by show (flatC D).length - (k + 1) < (flatC D).length - k; omega, ⟨rfl, rfl, trivial⟩, ?_, rfl⟩
              show Ent _ [.row A' _ cap' 107 11 (mks (mrgK C D (k + 1))) (0, 0)]
              rw [← hset, hm1, List.set_set]
              exact Ent.refl _
        · repeat (first | (refine ⟨fun h => ?_, fun h => ?_⟩; rotate_left 1; (focus (exfalso; (first | (with_reducible (cases h; done)) | (revert h; simp; done) | (revert h; simp; omega) | (revert h; simp [*]; done)))); clear h) | (refine ⟨fun h => ?_, fun h => ?_⟩; (focus (exfalso; (first | (with_reducible (cases h; done)) | (revert h; simp; done) | (revert h; simp; omega) | (revert h; simp [*]; done)))); clear h))
          refine ⟨by omega, by omega, ⟨qa, 0, .none⟩, hA', ?_⟩
          rw [show Int.toNat (i : Int) = i from rfl, show addA (⟨qa, 0, .none⟩ : Addr) (i * ti107.size) = ⟨qa, i * 11, .none⟩ from (addA_mrk qa i 0).1]
          refine ⟨rfl, rfl, 0, hA', by rw [(addA_mrk qa i 10).2], by rw [(addA_mrk qa i 10).2]; show i * 11 + 10 + 1 ≤ (mks _).length; rw [mks_length]; omega, ?_⟩
          rw [setMk (l := mrgK C D k) (y := x.mk') (y' := ⟨x.mk'.s, true⟩) (qa := qa) (i := i) (k := 10) hgi (by decide) (by rw [(addA_mrk qa i 10).2]) rfl]
          have hgs : ((mrgK C D k).set i ⟨x.mk'.s, true⟩)[i]? = some ⟨x.mk'.s, true⟩ := List.getElem?_set_self hil2
          refine ⟨by omega, by omega, ⟨qa, 0, .none⟩, hA', ?_⟩
          refine ⟨.bool x.he, fldS (mk_own 0 hA' rfl hgs 9 _ rfl), ?_⟩
          cases hxe : x.he
          · repeat (first | (refine ⟨fun h => ?_, fun h => ?_⟩; rotate_left 1; (focus (exfalso; (first | (with_reducible (cases h; done)) | (revert h; simp; done) | (revert h; simp; omega) | (revert h; simp [*]; done)))); clear h) | (refine ⟨fun h => ?_, fun h => ?_⟩; (focus (exfalso; (first | (with_reducible (cases h; done)) | (revert h; simp; done) | (revert h; simp; omega) | (revert h; simp [*]; done)))); clear h))
            refine ⟨by omega, by omega, pb, hB, ?_⟩
            repeat (first | (refine ⟨fun h => ?_, fun h => ?_⟩; rotate_left 1; (focus (exfalso; (first | (with_reducible (cases h; done)) | (revert h; simp; done) | (revert h; simp; omega) | (revert h; simp [*]; done)))); clear h) | (refine ⟨fun h => ?_, fun h => ?_⟩; (focus (exfalso; (first | (with_reducible (cases h; done)) | (revert h; simp; done) | (revert h; simp; omega) | (revert h; simp [*]; done)))); clear h))
            refine ⟨_, .inl (fldS (hr 9 _ rfl)), ?_⟩
            repeat (first | (refine ⟨fun h => ?_, fun h => ?_⟩; rotate_left 1; (focus (exfalso; (first | (with_reducible (cases h; done)) | (revert h; simp; done) | (revert h; simp; omega) | (revert h; simp [*]; done)))); clear h) | (refine ⟨fun h => ?_, fun h => ?_⟩; (focus (exfalso; (first | (with_reducible (cases h; done)) | (revert h; simp; done) | (revert h; simp; omega) | (revert h; simp [*]; done)))); clear h))
            cases hmh : m.s.hd
            · have hm1 : (mrg1 x (toRec m)).mk' = ⟨{ x.s with hd := false }, true⟩ := by unfold mrg1 toRec Rec.mk' Rec.shown; simp only [hxf]; simp only [hxe, hmh]; rfl
              repeat (first | (refine ⟨fun h => ?_, fun h => ?_⟩; rotate_left 1; (focus (exfalso; (first | (with_reducible (cases h; done)) | (revert h; simp; done) | (revert h; simp; omega) | (revert h; simp [*]; done)))); clear h) | (refine ⟨fun h => ?_, fun h => ?_⟩; (focus (exfalso; (first | (with_reducible (cases h; done)) | (revert h; simp; done) | (revert h; simp; omega) | (revert h; simp [*]; done)))); clear h))
              refine ⟨by omega, by omega, ⟨qa, 0, .none⟩, hA', ?_⟩
              rw [show Int.toNat (i : Int) = i from rfl, show addA (⟨qa, 0, .none⟩ : Addr) (i * ti107.size) = ⟨qa, i * 11, .none⟩ from (addA_mrk qa i 0).1]
              refine ⟨rfl, rfl, 0, hA', by rw [(addA_mrk qa i 0).2]; rfl, by rw [(addA_mrk qa i 0).2]; show i * 11 + 9 + 1 ≤ (mks _).length; rw [mks_length, List.length_set]; omega, ?_⟩
              rw [setMk (l := (mrgK C D k).set i ⟨x.mk'.s, true⟩) (y := ⟨x.mk'.s, true⟩) (y' := ⟨{ x.s with hd := false }, true⟩) (qa := qa) (i := i) (k := 9) (List.getElem?_set_self hil2) (by decide) (by rw [(addA_mrk qa i 0).2]; rfl) rfl]
              (intro z hz; obtain rfl : z = ((k + 1 : Nat) : Int) := (by first | (rw [IntKind.wrap_i64] at hz; omega) | (rw [IntKind.wrap_u64] at hz; omega) | omega); clear hz)
              refine ⟨rfl, (A', cap', (mrgK C D k).length, k + 1), ⟨hil, hag2, by rw [← hset, List.length_set], hg⟩, by show (flatC D).length - (k + 1) < (flatC D).length - k; omega, ⟨rfl, rfl, trivial⟩, ?_, rfl⟩
              show Ent _ [.row A' _ cap' 107 11 (mks (mrgK C D (k + 1))) (0, 0)]
              rw [← hset, hm1, List.set_set]
              exact Ent.refl _
            · have hm1 : (mrg1 x (toRec m)).mk' = ⟨{ x.s with hd := !true }, true⟩ := by unfold mrg1 toRec Rec.mk' Rec.shown; simp only [hxf]; simp only [hxe, hmh]; rfl
              repeat (first | (refine ⟨fun h => ?_, fun h => ?_⟩; rotate_left 1; (focus (exfalso; (first | (with_reducible (cases h; done)) | (revert h; simp; done) | (revert h; simp; omega) | (revert h; simp [*]; done)))); clear h) | (refine ⟨fun h => ?_, fun h => ?_⟩; (focus (exfalso; (first | (with_reducible (cases h; done)) | (revert h; simp; done) | (revert h; simp; omega) | (revert h; simp [*]; done)))); clear h))
              refine ⟨by omega, by omega, ⟨qa, 0, .none⟩, hA', ?_⟩
              repeat (first | (refine ⟨fun h => ?_, fun h => ?_⟩; rotate_left 1; (focus (exfalso; (first | (with_reducible (cases h; done)) | (revert h; simp; done) | (revert h; simp; omega) | (revert h; simp [*]; done)))); clear h) | (refine ⟨fun h => ?_, fun h => ?_⟩; (focus (exfalso; (first | (with_reducible (cases h; done)) | (revert h; simp; done) | (revert h; simp; omega) | (revert h; simp [*]; done)))); clear h))
              refine ⟨.bool true, fldS (mk_own 0 hA' rfl hgs 10 _ rfl), ?_⟩
              repeat (first | (refine ⟨fun h => ?_, fun h => ?_⟩; rotate_left 1; (focus (exfalso; (first | (with_reducible (cases h; done)) | (revert h; simp; done) | (revert h; simp; omega) | (revert h; simp [*]; done)))); clear h) | (refine ⟨fun h => ?_, fun h => ?_⟩; (focus (exfalso; (first | (with_reducible (cases h; done)) | (revert h; simp; done) | (revert h; simp; omega) | (revert h; simp [*]; done)))); clear h))
              refine ⟨by omega, by omega, ⟨qa, 0, .none⟩, hA', ?_⟩
              rw [show Int.toNat (i : Int) = i from rfl, show addA (⟨qa, 0, .none⟩ : Addr) (i * ti107.size) = ⟨qa, i * 11, .none⟩ from (addA_mrk qa i 0).1]
              refine ⟨rfl, rfl, 0, hA', by rw [(addA_mrk qa i 0).2]; rfl, by rw [(addA_mrk qa i 0).2]; show i * 11 + 9 + 1 ≤ (mks _).length; rw [mks_length, List.length_set]; omega, ?_⟩
              rw [setMk (l := (mrgK C D k).set i ⟨x.mk'.s, true⟩) (y := ⟨x.mk'.s, true⟩) (y' := ⟨{ x.s with hd := (!true) }, true⟩) (qa := qa) (i := i) (k := 9) (List.getElem?_set_self hil2) (by decide) (by rw [(addA_mrk qa i 0).2]; rfl) rfl]
              (intro z hz; obtain rfl : z = ((k + 1 : Nat) : Int) := (by first | (rw [IntKind.wrap_i64] at hz; omega) | (rw [IntKind.wrap_u64] at hz; omega) | omega); clear hz)
              refine ⟨rfl, (A', cap', (mrgK C D k).length, k + 1), ⟨hil, hag2, by rw [← hset, List.length_set], hg⟩, by show (flatC D).length - (k + 1) < (flatC D).length - k; omega, ⟨rfl, rfl, trivial⟩, ?_, rfl⟩
              show Ent _ [.row A' _ cap' 107 11 (mks (mrgK C D (k + 1))) (0, 0)]
              rw [← hset, hm1, List.set_set]
              exact Ent.refl _
          · have hm1 : (mrg1 x (toRec m)).mk' = ⟨{ x.s with hd := !true }, true⟩ := by unfold mrg1 toRec Rec.mk' Rec.shown; simp only [hxf]; simp only [hxe]; rfl
            repeat (first | (refine ⟨fun h => ?_, fun h => ?_⟩; rotate_left 1; (focus (exfalso; (first | (with_reducible (cases h; done)) | (revert h; simp; done) | (revert h; simp; omega) | (revert h; simp [*]; done)))); clear h) | (refine ⟨fun h => ?_, fun h => ?_⟩; (focus (exfalso; (first | (with_reducible (cases h; done)) | (revert h; simp; done) | (revert h; simp; omega) | (revert h; simp [*]; done)))); clear h))
            refine ⟨by omega, by omega, ⟨qa, 0, .none⟩, hA', ?_⟩
            repeat (first | (refine ⟨fun h => ?_, fun h => ?_⟩; rotate_left 1; (focus (exfalso; (first | (with_reducible (cases h; done)) | (revert h; simp; done) | (revert h; simp; omega) | (revert h; simp [*]; done)))); clear h) | (refine ⟨fun h => ?_, fun h => ?_⟩; (focus (exfalso; (first | (with_reducible (cases h; done)) | (revert h; simp; done) | (revert h; simp; omega) | (revert h; simp [*]; done)))); clear h))
            refine ⟨.bool true, fldS (mk_own 0 hA' rfl hgs 10 _ rfl), ?_⟩
            repeat (first | (refine ⟨fun h => ?_, fun h => ?_⟩; rotate_left 1; (focus (exfalso; (first | (with_reducible (cases h; done)) | (revert h; simp; done) | (revert h; simp; omega) | (revert h; simp [*]; done)))); clear h) | (refine ⟨fun h => ?_, fun h => ?_⟩; (focus (exfalso; (first | (with_reducible (cases h; done)) | (revert h; simp; done) | (revert h; simp; omega) | (revert h; simp [*]; done)))); clear h))
            refine ⟨by omega, by omega, ⟨qa, 0, .none⟩, hA', ?_⟩
            rw [show Int.toNat (i : Int) = i from rfl, show addA (⟨qa, 0, .none⟩ : Addr) (i * ti107.size) = ⟨qa, i * 11, .none⟩ from (addA_mrk qa i 0).1]
            refine ⟨rfl, rfl, 0, hA', by rw [(addA_mrk qa i 0).2]; rfl, by rw [(addA_mrk qa i 0).2]; show i * 11 + 9 + 1 ≤ (mks _).length; rw [mks_length, List.length_set]; omega, ?_⟩
            rw [setMk (l := (mrgK C D k).set i ⟨x.mk'.s, true⟩) (y := ⟨x.mk'.s, true⟩) (y' := ⟨{ x.s with hd := (!true) }, true⟩) (qa := qa) (i := i) (k := 9) (List.getElem?_set_self hil2) (by decide) (by rw [(addA_mrk qa i 0).2]; rfl) rfl]
            (intro z hz; obtain rfl : z = ((k + 1 : Nat) : Int) := (by first | (rw [IntKind.wrap_i64] at hz; omega) | (rw [IntKind.wrap_u64] at hz; omega) | omega); clear hz)
            refine ⟨rfl, (A', cap', (mrgK C D k).length, k + 1), ⟨hil, hag2, by rw [← hset, List.length_set], hg⟩, by show (flatC D).length - (k + 1) < (flatC D).length - k; omega, ⟨rfl, rfl, trivial⟩, ?_, rfl⟩
            show Ent _ [.row A' _ cap' 107 11 (mks (mrgK C D (k + 1))) (0, 0)]
            rw [← hset, hm1, List.set_set]
            exact Ent.refl _
  · have hb1 := of_decide_eq_false hb0
    obtain rfl : k = (flatC D).length := by have hk : k ≤ (flatC D).length := hk; omega
    have hT : toC ((flatC D).take (flatC D).length) = D := by rw [List.take_length]; exact toC_flat hD
    have hags : agreesB C D = true := (agreesB_iff hC).2 fun w => by have := hag w; rw [hT] at this; exact this
    rw [mrgK, hT] at hnl
    have hmr : mergeR C D = (mergeC C D, 0) := by unfold mergeR; rw [if_pos hags, if_neg (by omega)]
    rw [hmr]
    repeat (first | (refine ⟨fun h => ?_, fun h => ?_⟩; rotate_left 1; (focus (exfalso; (first | (with_reducible (cases h; done)) | (revert h; simp; done) | (revert h; simp; omega) | (revert h; simp [*]; done)))); clear h) | (refine ⟨fun h => ?_, fun h => ?_⟩; (focus (exfalso; (first | (with_reducible (cases h; done)) | (revert h; simp; done) | (revert h; simp; omega) | (revert h; simp [*]; done)))); clear h))
    refine ⟨_, Ent.refl _, _, rfl, ?_⟩
    show Nw A cap (flatC C) (flatC (mergeC C D)) (.slice A' n cap') [.row A' n cap' 107 11 (mks (flatC (mergeC C (toC ((flatC D).take (flatC D).length))))) (0, 0)]
    rw [hT]
    exact Nw.new hnl hg

end Go.Proofs.YtbgfnofjnbpdgaaDoor
