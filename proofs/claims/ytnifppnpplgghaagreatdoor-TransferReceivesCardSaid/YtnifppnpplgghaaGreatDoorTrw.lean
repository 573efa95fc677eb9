/-
  Transfer: what is saved is resumed, plain; a piece taken part by part.
-/
import Derived.Test.YtnifppnpplgghaaGreatDoorTrt
import Derived.Test.YtnifppnpplgghaaGreatDoorTrl
namespace Go.Proofs.YtnifppnpplgghaaGreatDoor
open Go Go.RowKit
set_option linter.unusedVariables false
set_option linter.unusedSimpArgs false

theorem recAll_snoc {h : Hd} {p : Pt} : ∀ {ps : List Pt} {s s' : List Slot}, recAll h s ps = (0, s') → recAll h s (ps ++ [p]) = recAll h s' [p]
  | [], s, s', e => by rw [show s = s' from (Prod.mk.inj e).2]; rfl
  | q :: ps, s, s', e => by
    by_cases e0 : recvE h s q = 0
    · rw [recAll_yes e0] at e
      rw [List.cons_append, recAll_yes e0]
      exact recAll_snoc e
    · rw [recAll_no e0] at e
      exact absurd (Prod.mk.inj e).1 e0
theorem asc_snoc {q : Pt} : ∀ {ps : List Pt}, asc ps = true → (∀ p ∈ ps, p.off < q.off) → asc (ps ++ [q]) = true
  | [], _, _ => rfl
  | [p], _, h => by
    show (decide (p.off < q.off) && true) = true
    rw [decide_eq_true (h p (by simp))]; rfl
  | p :: r :: ps, ha, h => by
    have ha : (decide (p.off < r.off) && asc (r :: ps)) = true := ha
    obtain ⟨h1, h2⟩ := (Bool.and_eq_true _ _ ▸ ha : _ ∧ _)
    show (decide (p.off < r.off) && asc ((r :: ps) ++ [q])) = true
    rw [h1, asc_snoc (ps := r :: ps) h2 fun x hx => h x (List.mem_cons_of_mem _ hx)]; rfl
set_option maxRecDepth 4000 in
theorem presK_off {h : Hd} {sls : List Slot} : ∀ (k : Nat) p, p ∈ presK h sls k → p.off < ((k * 512 : Nat) : Int)
  | 0, p, hp => by cases hp
  | k + 1, p, hp => by
    rw [presK_succ] at hp
    rcases List.mem_append.1 hp with hp | hp
    · exact Int.lt_trans (presK_off k p hp) (by omega)
    · split at hp
      · cases hp
      · rename_i x _
        obtain rfl := List.mem_singleton.1 hp
        have e : (partOf h k x).off = ((k * 512 : Nat) : Int) := rfl
        rw [e]; omega
theorem presK_asc {h : Hd} {sls : List Slot} : ∀ k, asc (presK h sls k) = true
  | 0 => rfl
  | k + 1 => by
    cases e : sls.getD k .none with
    | none => rw [presK_none e]; exact presK_asc k
    | some x => rw [presK_some e]; exact asc_snoc (presK_asc k) fun p hp => presK_off k p hp
/-- The slots as they stand after the first k. -/
def slK (sls : List Slot) (k : Nat) : List Slot := sls.take k ++ List.replicate (sls.length - k) .none
theorem slK_succ {sls : List Slot} {k : Nat} (hk : k < sls.length) : slK sls (k + 1) = (slK sls k).set k (sls.getD k .none) := by
  have e : sls[k]? = some (sls.getD k .none) := by rw [List.getD_eq_getElem?_getD, List.getElem?_eq_getElem hk]; rfl
  unfold slK
  rw [List.set_append_right _ _ (by rw [List.length_take]; omega), List.length_take, Nat.min_eq_left (Nat.le_of_lt hk), Nat.sub_self, show sls.length - k = (sls.length - (k + 1)) + 1 by omega, List.replicate_succ, List.set_cons_zero, List.take_add_one, e, List.append_assoc]; rfl
theorem slK_get {sls : List Slot} {k : Nat} (hk : k < sls.length) : (slK sls k).getD k .none = .none := by
  unfold slK
  rw [List.getD_eq_getElem?_getD, List.getElem?_append_right (by rw [List.length_take]; omega), List.length_take, Nat.min_eq_left (Nat.le_of_lt hk), Nat.sub_self, show sls.length - k = (sls.length - (k + 1)) + 1 by omega]; rfl
theorem set_same {sls : List Slot} {k : Nat} (h : sls.getD k .none = .none) (hk : k < sls.length) : sls.set k .none = sls := by
  refine List.ext_getElem? fun j => ?_
  rw [List.getElem?_set]
  split
  · rename_i e
    subst e
    rw [List.getD_eq_getElem?_getD, List.getElem?_eq_getElem hk] at h
    rw [List.getElem?_eq_getElem hk]
    first
      | exact congrArg some h.symm
      | (rw [if_pos hk]; exact congrArg some h.symm)
  · rfl
theorem recAll_slK {h : Hd} {sls : List Slot} (gd : GoodR h sls) : ∀ k, k ≤ sls.length → recAll h (List.replicate sls.length .none) (presK h sls k) = (0, slK sls k)
  | 0, _ => by unfold slK; rfl
  | k + 1, hk => by
    have ih := recAll_slK gd k (by omega)
    have hlt : k < sls.length := hk
    have hg := slK_get hlt
    have hl : (slK sls k).length = sls.length := by unfold slK; rw [List.length_append, List.length_take, List.length_replicate]; omega
    cases e : sls.getD k .none with
    | none =>
      rw [presK_none e, ih, slK_succ hlt, e, set_same hg (by omega)]
    | some x =>
      rw [presK_some e, recAll_snoc ih]
      have hoff : (partOf h k x).off.toNat / 512 = k := by show ((k * 512 : Nat) : Int).toNat / 512 = k; rw [Int.toNat_natCast]; omega
      have hlen := gd.len
      have ht : thereB h.sz (partOf h k x).off = true := by
        unfold partsN at hlen
        have := gd.wf.s0
        refine decide_eq_true ⟨?_, ?_, ?_⟩
        · show (0 : Int) ≤ ((k * 512 : Nat) : Int); omega
        · show ((k * 512 : Nat) : Int) < _; omega
        · show ((k * 512 : Nat) : Int).toNat % 512 = 0; rw [Int.toNat_natCast]; omega
      have hget : sls[k]? = some (some (x.1, x.2)) := by
        rw [List.getElem?_eq_getElem hlt]
        rw [List.getD_eq_getElem?_getD, List.getElem?_eq_getElem hlt] at e
        exact congrArg some e
      have hs := gd.see k x.1 x.2 hget
      have hE : recvE h (slK sls k) (partOf h k x) = 0 := by
        rw [recvE_see ⟨ht, rfl, rfl⟩ (by rw [hoff]; exact hg), hoff]
        exact if_pos hs
      rw [recAll_yes hE, recvS_yes hE, hoff, slK_succ hlt, e]; rfl
theorem resL_of {h : Hd} {sls : List Slot} (gd : GoodR h sls) : resL h (pres h sls) = (0, sls) := by
  have e := recAll_slK gd sls.length (Nat.le_refl _)
  have e2 : slK sls sls.length = sls := by unfold slK; rw [Nat.sub_self, List.take_length]; exact List.append_nil _
  rw [e2] at e
  rw [show presK h sls sls.length = pres h sls from rfl, gd.len] at e
  rw [res_asc gd.root e, if_pos (show asc (pres h sls) = true from presK_asc _)]
theorem res_back {h : Hd} {sls : List Slot} (gd : GoodR h sls) : OkR (encR h (pres h sls)) ∧ hR (encR h (pres h sls)) = h ∧ resL (hR (encR h (pres h sls))) (psR (encR h (pres h sls)) (qC (encR h (pres h sls)))) = (0, sls) ∧ (encR h (pres h sls)).length ≤ 200000 := by
  have hw : ∀ p ∈ pres h sls, WfP p := fun p hp => presK_wf gd p hp
  have hn : (pres h sls).length ≤ sls.length := presK_len h sls _
  have hl := gd.len
  have hs1 := gd.wf.s1
  have hs2 : sls.length ≤ 128 := by rw [hl]; unfold partsN; omega
  obtain ⟨h1, h2, h3, h4⟩ := okR_of gd.wf hw (by omega)
  refine ⟨h1, h2, by rw [h4, h2]; exact resL_of gd, ?_⟩
  have b1 := encH_le gd.wf
  have b2 := bodyP_le hw
  have b3 := num_le10 (n := (encH h).length) (by omega)
  have b4 := num_le10 (n := (pres h sls).length) (by omega)
  unfold encR
  simp only [List.length_append]; omega

/-- Of an honest sender: what is left is missing, the rest is there. -/
structure HonS (p : Pc) (lf : List Nat) (sls : List Slot) : Prop where
  gd : GoodR p.hd sls
  nd : lf.Nodup
  lt : ∀ j ∈ lf, j < partsN p.dt.length
  no : ∀ j ∈ lf, sls.getD j .none = .none
  yes : ∀ j, j < partsN p.dt.length → j ∉ lf → sls.getD j .none = some ((partAt p j).dt, (partAt p j).path)
theorem HonS.new {p : Pc} (w : VPc p) : HonS p (List.range (partsN p.dt.length)) (List.replicate (partsN p.dt.length) .none) where
  gd := GoodR.new (h := p.hd) w.wf w.root
  nd := List.nodup_range
  lt := fun j hj => List.mem_range.1 hj
  no := fun j hj => by rw [List.getD_eq_getElem?_getD, List.getElem?_replicate, if_pos (List.mem_range.1 hj)]; rfl
  yes := fun j hj hn => absurd (List.mem_range.2 hj) hn
theorem HonS.take {p : Pc} {lf : List Nat} {sls : List Slot} (w : VPc p) (hs : HonS p lf sls) {a x : Nat} (hx : lf[a]? = some x) : recvE p.hd sls (partAt p x) = 0 ∧ HonS p (lf.take a ++ lf.drop (a + 1)) (recvS p.hd sls (partAt p x)) := by
  have hm := List.mem_of_getElem? hx
  have h1 := hs.lt x hm
  have h2 := hs.no x hm
  have hE := honest w h1 h2
  have hS := honest_set w h1 h2
  have hl : sls.length = partsN p.dt.length := hs.gd.len
  have e : lf = lf.take a ++ x :: lf.drop (a + 1) := by
    obtain ⟨hlt, he⟩ := List.getElem?_eq_some_iff.1 hx
    conv => lhs; rw [← List.take_append_drop a lf, List.drop_eq_getElem_cons hlt, he]
  have hnd := hs.nd
  rw [e, List.nodup_append] at hnd
  obtain ⟨n1, n2, n3⟩ := hnd
  rw [List.nodup_cons] at n2
  have hsub : ∀ j, j ∈ lf.take a ++ lf.drop (a + 1) → j ∈ lf ∧ j ≠ x := fun j hj => by
    rcases List.mem_append.1 hj with hj | hj
    · exact ⟨List.mem_of_mem_take hj, n3 j hj x (List.mem_cons_self ..)⟩
    · exact ⟨List.mem_of_mem_drop hj, fun h => n2.1 (h ▸ hj)⟩
  refine ⟨hE, hs.gd.recv _, ?_, fun j hj => hs.lt j (hsub j hj).1, fun j hj => ?_, fun j hj hn => ?_⟩
  · exact List.nodup_append.2 ⟨n1, n2.2, fun u hu v hv => n3 u hu v (List.mem_cons_of_mem _ hv)⟩
  · rw [hS, getD_set (by omega), if_neg fun h => (hsub j hj).2 h.symm]
    exact hs.no j (hsub j hj).1
  · rw [hS, getD_set (by omega)]
    by_cases h : x = j
    · rw [if_pos h, h]
    · rw [if_neg h]
      refine hs.yes j hj fun hj2 => hn ?_
      rw [e] at hj2
      rcases List.mem_append.1 hj2 with h2 | h2
      · exact List.mem_append_left _ h2
      · rcases List.mem_cons.1 h2 with h3 | h3
        · exact absurd h3.symm h
        · exact List.mem_append_right _ h3
theorem missK_nil {sls : List Slot} : ∀ k, (∀ j, j < k → ∃ x, sls.getD j .none = some x) → missK sls k = []
  | 0, _ => rfl
  | k + 1, h => by
    obtain ⟨x, hx⟩ := h k (by omega)
    rw [missK_some hx]
    exact missK_nil k fun j hj => h j (by omega)
theorem HonS.done {p : Pc} {sls : List Slot} (hs : HonS p [] sls) : missL sls = [] ∧ haveB sls = p.dt := by
  have hl : sls.length = partsN p.dt.length := hs.gd.len
  have hy : ∀ j, j < sls.length → sls.getD j .none = some ((partAt p j).dt, (partAt p j).path) := fun j hj => hs.yes j (by omega) List.not_mem_nil
  refine ⟨missK_nil sls.length fun j hj => ⟨_, hy j hj⟩, ?_⟩
  have e : dataL sls = (List.range (partsN p.dt.length)).map (blockOf p.dt 512) := by
    refine List.ext_getElem (by unfold dataL; rw [List.length_map, List.length_map, List.length_range, hl]) fun j h1 h2 => ?_
    unfold dataL at h1 ⊢
    rw [List.length_map] at h1
    have h3 := hy j h1
    rw [List.getD_eq_getElem?_getD, List.getElem?_eq_getElem h1] at h3
    have h3 : sls[j] = some ((partAt p j).dt, (partAt p j).path) := h3
    rw [List.getElem_map, List.getElem_map, List.getElem_range, h3]; rfl
  unfold haveB
  rw [e, blocks_cat, List.take_of_length_le]
  unfold partsN; omega

end Go.Proofs.YtnifppnpplgghaaGreatDoor
