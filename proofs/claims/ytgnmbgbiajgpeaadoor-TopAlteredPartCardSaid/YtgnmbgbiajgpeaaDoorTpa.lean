/-
  Top: slots that hold the piece's own data, plain; and a leaf that is accepted with the root of a list.
-/
import Derived.Test.YtgnmbgbiajgpeaaDoorTrg
import Derived.Test.YtgnmbgbiajgpeaaDoorTom
namespace Go.Proofs.YtgnmbgbiajgpeaaDoor
open Go Go.RowKit
set_option linter.unusedVariables false
set_option linter.unusedSimpArgs false

theorem blocks_catT (x : Str) : ∀ k, cat ((List.range k).map (blockOf x 512)) = x.take (k * 512)
  | 0 => by simp [cat]
  | k + 1 => by
    rw [List.range_succ, List.map_append, List.map_cons, List.map_nil, cat_snoc, blocks_catT x k, Nat.succ_mul, List.take_add]
    congr 1
    show (x.drop (k * 512)).take (min 512 (x.length - k * 512)) = _
    have := take_min (x.drop (k * 512)) 512
    rwa [List.length_drop] at this
theorem part_offT (p : Pc) (i : Nat) : (partAt p i).off.toNat / 512 = i := by
  show ((i * 512 : Nat) : Int).toNat / 512 = i
  rw [Int.toNat_natCast]; omega
theorem part_thereT {p : Pc} {i : Nat} (hi : i < partsN p.dt.length) : thereB p.dt.length (partAt p i).off = true := by
  unfold partsN at hi
  refine decide_eq_true ⟨?_, ?_, ?_⟩
  · show (0 : Int) ≤ ((i * 512 : Nat) : Int); omega
  · show ((i * 512 : Nat) : Int) < _; omega
  · show ((i * 512 : Nat) : Int).toNat % 512 = 0; rw [Int.toNat_natCast]; omega
theorem part_seeT {p : Pc} (w : VPc p) {i : Nat} (hi : i < partsN p.dt.length) : seeB (p.sums.getD p.ix.toNat []) p.dt.length 512 (i : Int) (partAt p i).dt (partAt p i).path = true := by
  rw [← w.sum]
  have h := there_good (part_thereT (p := p) hi)
  rw [part_offT] at h
  exact (see_good (s := 512) h).1
theorem honestT {p : Pc} (w : VPc p) {i : Nat} (hi : i < partsN p.dt.length) {sls : List Slot} (hs : sls.getD i .none = .none) : recvE p.hd sls (partAt p i) = 0 := by
  have ho := part_offT p i
  rw [recvE_see (h := p.hd) ⟨part_thereT hi, rfl, rfl⟩ (by rw [ho]; exact hs), ho]
  exact if_pos (part_seeT w hi)
theorem honest_setT {p : Pc} (w : VPc p) {i : Nat} (hi : i < partsN p.dt.length) {sls : List Slot} (hs : sls.getD i .none = .none) : recvS p.hd sls (partAt p i) = sls.set i (some ((partAt p i).dt, (partAt p i).path)) := by
  rw [recvS_yes (honestT w hi hs), part_offT]
theorem part_path_leT (p : Pc) (i : Nat) : (partAt p i).path.length ≤ p.dt.length := by
  show (pathR (blockLeaves 512 p.dt) i).reverse.length ≤ _
  rw [List.length_reverse]
  exact Nat.le_trans (pathR_le _ _ i rfl) (blockLeaves_le 512 _ p.dt rfl)
theorem part_dt_leT (p : Pc) (i : Nat) : (partAt p i).dt.length ≤ 512 := by
  show (blockOf p.dt 512 i).length ≤ _
  rw [blockOf_length]; omega
theorem getD_setT {α : Type} {l : List α} {i j : Nat} {x d : α} (h : i < l.length) : (l.set i x).getD j d = if i = j then x else l.getD j d := by
  rw [List.getD_eq_getElem?_getD, List.getD_eq_getElem?_getD, List.getElem?_set]
  by_cases e : i = j
  · rw [if_pos e, if_pos h, if_pos e]; rfl
  · rw [if_neg e, if_neg e]
theorem missK_nilT {sls : List Slot} : ∀ k, (∀ j, j < k → ∃ x, sls.getD j .none = some x) → missK sls k = []
  | 0, _ => rfl
  | k + 1, h => by
    obtain ⟨x, hx⟩ := h k (by omega)
    rw [missK_some hx]
    exact missK_nilT k fun j hj => h j (by omega)

/-- What lies in the slots is the piece's own data. -/
structure TrueS (p : Pc) (sls : List Slot) : Prop where
  gd : GoodR p.hd sls
  tr : ∀ (i : Nat) d q, sls.getD i .none = some (d, q) → d = blockOf p.dt 512 i
theorem TrueS.new {p : Pc} (w : VPc p) : TrueS p (List.replicate (partsN p.dt.length) .none) :=
  ⟨GoodR.new (h := p.hd) w.wf w.root, fun i d q h => by
    rw [List.getD_eq_getElem?_getD, List.getElem?_replicate] at h
    split at h <;> cases h⟩
theorem TrueS.recv {p : Pc} {sls : List Slot} (h : TrueS p sls) (x : Pt) (hx : recvE p.hd sls x = 0 → x.dt = blockOf p.dt 512 (x.off.toNat / 512)) : TrueS p (recvS p.hd sls x) := by
  refine ⟨h.gd.recv x, fun i d q hi => ?_⟩
  by_cases e : recvE p.hd sls x = 0
  case neg => rw [recvS_no e] at hi; exact h.tr i d q hi
  rw [recvS_yes e] at hi
  have hlt : x.off.toNat / 512 < sls.length ∨ ¬ x.off.toNat / 512 < sls.length := Decidable.em _
  rcases hlt with hlt | hlt
  · rw [getD_setT hlt] at hi
    split at hi
    · rename_i e2
      cases hi
      rw [← e2]; exact hx e
    · exact h.tr i d q hi
  · rw [List.set_eq_of_length_le (by omega)] at hi
    exact h.tr i d q hi
/-- The numbers of missing parts. -/
def missI (sls : List Slot) : List Nat := (List.range sls.length).filter fun i => (sls.getD i .none).isNone
theorem missL_map (sls : List Slot) : missL sls = (missI sls).map (· * 512) := by
  unfold missL missI
  generalize List.range sls.length = l
  induction l with
  | nil => rfl
  | cons i r ih =>
    rw [List.flatMap_cons, ih]
    cases h : sls.getD i .none with
    | none => rw [List.filter_cons_of_pos (by rw [h]; rfl)]; rfl
    | some x => rw [List.filter_cons_of_neg (by rw [h]; simp)]; rfl
structure MissS (p : Pc) (lf : List Nat) (sls : List Slot) : Prop where
  ts : TrueS p sls
  nd : lf.Nodup
  lt : ∀ j ∈ lf, j < partsN p.dt.length
  no : ∀ j ∈ lf, sls.getD j .none = .none
  yes : ∀ j, j < partsN p.dt.length → j ∉ lf → ∃ x, sls.getD j .none = some x
theorem TrueS.len {p : Pc} {sls : List Slot} (h : TrueS p sls) : sls.length = partsN p.dt.length := h.gd.len
theorem TrueS.miss {p : Pc} {sls : List Slot} (h : TrueS p sls) : MissS p (missI sls) sls where
  ts := h
  nd := List.Pairwise.filter _ List.nodup_range
  lt := fun j hj => by rw [← h.len]; exact List.mem_range.1 (List.mem_filter.1 hj).1
  no := fun j hj => by
    have := (List.mem_filter.1 hj).2
    cases h2 : sls.getD j .none with
    | none => rfl
    | some x => rw [h2] at this; cases this
  yes := fun j hj hn => by
    cases h2 : sls.getD j .none with
    | some x => exact ⟨x, rfl⟩
    | none => exact absurd (List.mem_filter.2 ⟨List.mem_range.2 (by rw [h.len]; exact hj), by rw [h2]; rfl⟩) hn
theorem MissS.step {p : Pc} (w : VPc p) {x : Nat} {lf : List Nat} {sls : List Slot} (h : MissS p (x :: lf) sls) : recvE p.hd sls (partAt p x) = 0 ∧ MissS p lf (recvS p.hd sls (partAt p x)) := by
  have h1 := h.lt x (by simp)
  have h2 := h.no x (by simp)
  have hE := honestT w h1 h2
  have hS := honest_setT w h1 h2
  have hl := h.ts.len
  have hnd := List.nodup_cons.1 h.nd
  refine ⟨hE, h.ts.recv _ (fun _ => by rw [part_offT]; rfl), hnd.2, fun j hj => h.lt j (List.mem_cons_of_mem _ hj), fun j hj => ?_, fun j hj hn => ?_⟩
  · rw [hS, getD_setT (by omega), if_neg (fun e : x = j => hnd.1 (by rw [e]; exact hj))]
    exact h.no j (List.mem_cons_of_mem _ hj)
  · rw [hS, getD_setT (by omega)]
    by_cases e : x = j
    · rw [if_pos e]; exact ⟨_, rfl⟩
    · rw [if_neg e]
      refine h.yes j hj fun hj2 => ?_
      rcases List.mem_cons.1 hj2 with h3 | h3
      · exact e h3.symm
      · exact hn h3
theorem MissS.done {p : Pc} {sls : List Slot} (h : MissS p [] sls) : missL sls = [] ∧ haveB sls = p.dt := by
  have hl := h.ts.len
  have hy : ∀ j, j < sls.length → ∃ x, sls.getD j .none = some x := fun j hj => h.yes j (by omega) List.not_mem_nil
  refine ⟨missK_nilT sls.length hy, ?_⟩
  have e : dataL sls = (List.range (partsN p.dt.length)).map (blockOf p.dt 512) := by
    refine List.ext_getElem (by unfold dataL; rw [List.length_map, List.length_map, List.length_range, hl]) fun j h1 h2 => ?_
    unfold dataL at h1 ⊢
    rw [List.length_map] at h1
    obtain ⟨⟨d, q⟩, h3⟩ := hy j h1
    have h4 := h.ts.tr j d q h3
    rw [List.getD_eq_getElem?_getD, List.getElem?_eq_getElem h1] at h3
    have h3 : sls[j] = some (d, q) := h3
    rw [List.getElem_map, List.getElem_map, List.getElem_range, h3, ← h4]
  unfold haveB
  rw [e, blocks_catT, List.take_of_length_le]
  unfold partsN; omega

/-! ### a leaf that is accepted with the root of a list -/
structure Acc (leaves : List Str) (leaf : Str) (i : Nat) (rp : List Str) : Prop where
  sl : sumsB leaves = true
  lf : leaf.length = 32
  sp : ∀ s ∈ rp, s.length = 32
  lt : i < leaves.length
  ok : (upR leaf rp i leaves.length).2 = true
  rt : (upR leaf rp i leaves.length).1 = rootOf leaves
theorem upR_sum {leaf : Str} (hl : leaf.length = 32) : ∀ (rp : List Str) (i n : Nat), (upR leaf rp i n).2 = true → (upR leaf rp i n).1.length = 32
  | [], i, n, h => by
    by_cases h1 : n = 1
    · rw [h1, upR_nil1]; exact hl
    · rw [upR_niln _ _ h1] at h; cases h
  | last :: rest, i, n, h => by
    by_cases h1 : n = 1
    · rw [h1, upR_one] at h; cases h
    by_cases h2 : i < splitN n
    · rw [upR_lo _ _ _ h1 h2]; exact sha_length _
    · rw [upR_hi _ _ _ h1 h2]; exact sha_length _
theorem Acc.one {leaves : List Str} {leaf : Str} {i : Nat} {rp : List Str} (h : Acc leaves leaf i rp) (hn : leaves.length = 1) : leaf = leaves.getD 0 [] := by
  have h1 := h.ok
  have h2 := h.rt
  rw [hn] at h1 h2
  rw [rootOf_one hn] at h2
  cases rp with
  | nil => rw [upR_nil1] at h2; exact h2
  | cons a r => rw [upR_one] at h1; cases h1
theorem Acc.nil {leaves : List Str} {leaf : Str} {i : Nat} (h : Acc leaves leaf i []) : leaves.length = 1 := by
  by_cases h1 : leaves.length = 1
  · exact h1
  · have := h.ok
    rw [upR_niln _ _ h1] at this; cases this
/-- The last step: what is hashed is the same, and the rest is accepted below; or it is not, and the sums are the same. -/
theorem Acc.lo {leaves : List Str} {leaf last : Str} {i : Nat} {rest : List Str} (h : Acc leaves leaf i (last :: rest)) (h2 : 2 ≤ leaves.length) (hi : i < splitN leaves.length) :
    (upR leaf rest i (splitN leaves.length)).2 = true ∧ sha ([1] ++ (upR leaf rest i (splitN leaves.length)).1 ++ last) = sha ([1] ++ rootOf (leaves.take (splitN leaves.length)) ++ rootOf (leaves.drop (splitN leaves.length))) ∧
    ([1] ++ (upR leaf rest i (splitN leaves.length)).1 ++ last = [1] ++ rootOf (leaves.take (splitN leaves.length)) ++ rootOf (leaves.drop (splitN leaves.length)) → Acc (leaves.take (splitN leaves.length)) leaf i rest) := by
  have hk := splitN_lt h2
  have h1 := h.ok
  have h3 := h.rt
  rw [upR_lo _ _ _ (by omega) hi] at h1 h3
  have hu := upR_sum h.lf rest i _ h1
  refine ⟨h1, ?_, fun e => ?_⟩
  · rw [root15 h2] at h3
    rw [List.append_assoc, List.append_assoc]
    exact h3
  · have e : ([1] : Str) ++ ((upR leaf rest i (splitN leaves.length)).1 ++ last) = [1] ++ (rootOf (leaves.take (splitN leaves.length)) ++ rootOf (leaves.drop (splitN leaves.length))) := by rw [← List.append_assoc, ← List.append_assoc]; exact e
    have e := List.append_cancel_left e
    have ht := sums_take15 h.sl (splitN leaves.length)
    obtain ⟨e1, _⟩ := List.append_inj e (by rw [hu, root_sum ht])
    have hlen : (leaves.take (splitN leaves.length)).length = splitN leaves.length := by rw [List.length_take]; omega
    exact ⟨ht, h.lf, fun s hs => h.sp s (List.mem_cons_of_mem _ hs), by rw [hlen]; exact hi, by rw [hlen]; exact h1, by rw [hlen]; exact e1⟩
theorem Acc.hi {leaves : List Str} {leaf last : Str} {i : Nat} {rest : List Str} (h : Acc leaves leaf i (last :: rest)) (h2 : 2 ≤ leaves.length) (hi : ¬ i < splitN leaves.length) :
    (upR leaf rest (i - splitN leaves.length) (leaves.length - splitN leaves.length)).2 = true ∧ sha ([1] ++ last ++ (upR leaf rest (i - splitN leaves.length) (leaves.length - splitN leaves.length)).1) = sha ([1] ++ rootOf (leaves.take (splitN leaves.length)) ++ rootOf (leaves.drop (splitN leaves.length))) ∧
    ([1] ++ last ++ (upR leaf rest (i - splitN leaves.length) (leaves.length - splitN leaves.length)).1 = [1] ++ rootOf (leaves.take (splitN leaves.length)) ++ rootOf (leaves.drop (splitN leaves.length)) → Acc (leaves.drop (splitN leaves.length)) leaf (i - splitN leaves.length) rest) := by
  have hk := splitN_lt h2
  have hlt := h.lt
  have h1 := h.ok
  have h3 := h.rt
  rw [upR_hi _ _ _ (by omega) hi] at h1 h3
  refine ⟨h1, ?_, fun e => ?_⟩
  · rw [root15 h2] at h3
    rw [List.append_assoc, List.append_assoc]
    exact h3
  · have e : ([1] : Str) ++ (last ++ (upR leaf rest (i - splitN leaves.length) (leaves.length - splitN leaves.length)).1) = [1] ++ (rootOf (leaves.take (splitN leaves.length)) ++ rootOf (leaves.drop (splitN leaves.length))) := by rw [← List.append_assoc, ← List.append_assoc]; exact e
    have e := List.append_cancel_left e
    have ht := sums_take15 h.sl (splitN leaves.length)
    have hd := sums_drop15 h.sl (splitN leaves.length)
    obtain ⟨_, e1⟩ := List.append_inj e (by rw [h.sp last (by simp), root_sum ht])
    have hlen : (leaves.drop (splitN leaves.length)).length = leaves.length - splitN leaves.length := by rw [List.length_drop]
    exact ⟨hd, h.lf, fun s hs => h.sp s (List.mem_cons_of_mem _ hs), by rw [hlen]; omega, by rw [hlen]; exact h1, by rw [hlen]; exact e1⟩

end Go.Proofs.YtgnmbgbiajgpeaaDoor
