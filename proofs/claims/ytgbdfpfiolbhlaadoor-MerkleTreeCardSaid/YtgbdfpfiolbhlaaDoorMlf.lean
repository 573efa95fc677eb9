/-
  The law MerkleGrows.
-/
import Derived.Test.YtgbdfpfiolbhlaaDoorMle
namespace Go.Proofs.YtgbdfpfiolbhlaaDoor
open Go Go.RowKit
set_option linter.unusedVariables false

theorem TRoot_n (R : Rd) (hG : ShaG R) (g : Nat) (l : List Str) (hT : TreeR R g l) (hl : Small l) (hl6 : l.length ≤ 1000000) (n : Nat) (hn : n ≤ l.length) :
    Fn Tryd.prog 47 [.pointer (some ⟨g, 0, .none⟩), .int .i64 n] [] R (fun v h => v = .tuple ⟨[.string ⟨⟨rootOf (l.take n)⟩⟩, .int .i64 0]⟩ ∧ h = []) :=
  Fn.post (TRoot_ok R hG g l hT hl hl6 n) fun v h w ⟨e, eh⟩ _ => ⟨by rw [e, rootV, if_pos (by omega), Int.toNat_natCast], eh⟩
theorem TCons_n (R : Rd) (hG : ShaG R) (g : Nat) (l : List Str) (hT : TreeR R g l) (hl : Small l) (hl6 : l.length ≤ 1000000) (m n : Nat) (hmn : m ≤ n) (hn : n ≤ l.length) :
    Fn Tryd.prog 48 [.pointer (some ⟨g, 0, .none⟩), .int .i64 m, .int .i64 n] [] R (fun v h => ∃ A k cap xs, h = [.row A k cap 9 1 xs (0, 0)] ∧ grow k A ∧ k ≤ cap ∧ v = .tuple ⟨[.slice A k cap, .int .i64 0]⟩ ∧ k = (consOf l m n).length ∧ xs = SV (consOf l m n)) :=
  Fn.post (TConsistency_ok R hG g l hT hl hl6 m n) fun v h w ⟨A, k, cap, xs, eh, hg, hc⟩ o => by
    rcases hc with ⟨hn, _⟩ | ⟨_, _, _, ev, ek, ex⟩
    · exact absurd ⟨by omega, by omega, by omega⟩ hn
    · exact ⟨A, k, cap, xs, eh, hg, by subst eh; exact (row_cap o 0 rfl).1, ev, ek, ex⟩

theorem Mid0 : TreeS [] 1 [.slice .none 0 0] (fun _ => Lm.no) := by
  refine ⟨Nat.le_refl _, by omega, fun j hj => ?_, rfl, fun j _ => ⟨?_, ?_, .inl rfl⟩, fun _ _ => rfl⟩
  · have := Nat.two_pow_pos j
    have hj : 2 ^ j ≤ 0 := hj
    omega
  · show 0 = _
    rw [lvl_length]; simp
  · show [] = _
    have : lvl j [] = [] := List.eq_nil_of_length_eq_zero (by rw [lvl_length]; simp)
    rw [this]; rfl
theorem Ent.tree0 (g g1 : Nat) : Ent [.row (some ⟨g1, 0, .none⟩) 1 1 27 1 [.slice .none 0 0] (0, 0), .blk g 85 [.slice (some ⟨g1, 0, .none⟩) 1 1]] (treeL g g1 1 1 [.slice .none 0 0] (fun _ => Lm.no)) :=
  (((((Ent.perm (List.perm_append_comm (l₁ := [_]) (l₂ := [_]))).trans (Ent.nilrow _ 9 1)).trans (Ent.nilrow _ 9 1)).trans (Ent.nilrow _ 9 1)).trans (Ent.nilrow _ 9 1)).trans (Ent.nilrow _ 9 1)

theorem leavesOf_snoc {c : List Str} {k : Nat} (h : k < c.length) : leavesOf (c.take k) ++ [leafOf (c.getD k [])] = leavesOf (c.take (k + 1)) := by
  rw [List.take_add_one, List.getD_eq_getElem?_getD, List.getElem?_eq_getElem h]
  show leavesOf (c.take k) ++ [leafOf c[k]] = leavesOf (c.take k ++ [c[k]])
  unfold leavesOf
  rw [List.map_append]; rfl
theorem consOf_sums {l : List Str} {m n : Nat} (hmn : m ≤ n) (hn : n ≤ l.length) (hl : sumsB l = true) : sumsB (consOf l m n) = true := by
  by_cases h0 : m = 0
  · rw [consOf, if_pos h0]; rfl
  · rw [consOf, if_neg h0, sumsB_reverse]
    exact proofR_sums n (l.take n) m true (by rw [List.length_take]; omega) (by omega) (by rw [List.length_take]; omega) (sumsB_takeK hl _)
theorem consOf_len {l : List Str} {m n : Nat} (hn : n ≤ l.length) : (consOf l m n).length ≤ n + 1 := by
  by_cases h0 : m = 0
  · rw [consOf, if_pos h0]; simp
  · rw [consOf, if_neg h0, List.length_reverse]
    have := proofR_le n (l.take n) m true (by rw [List.length_take]; omega)
    omega

set_option maxRecDepth 100000 in
set_option maxHeartbeats 1000000 in
theorem MerkleGrows_law (R : Rd) (hG : ShaG R) (v0 v1 v2 : Value) (s0 : SeenV R (.sl 1 .str) v0) (s1 : SeenV R (.int .i64) v1) (s2 : SeenV R (.int .i64) v2) :
    Fn Tryd.prog 14 [v0, v1, v2] [] R (fun v _ => v = .bool true) := by
  obtain ⟨c, hl, hs, _⟩ := s0.strings
  obtain ⟨m, rfl, hm1, hm2⟩ := s1.i64
  obtain ⟨n, rfl, hn1, hn2⟩ := s2.i64
  obtain ⟨B, cap0, rfl, hc, hsr⟩ := hs
  have hML := maxLen_eq
  refine fn_of_vc mixed tabOk Tryd.func14 rfl (by kernel_rfl) (Nat.le_of_ble_eq_true rfl) ?_
  refine ⟨[], _, awake_ok _ (hG.rh _), ?_⟩
  rintro _ _ ⟨rfl, rfl⟩
  repeat (first | (refine ⟨fun h => ?_, fun h => ?_⟩; rotate_left 1; (focus (exfalso; (first | (with_reducible (cases h; done)) | (revert h; simp; done) | (revert h; simp; omega) | (revert h; simp [*]; done)))); clear h) | (refine ⟨fun h => ?_, fun h => ?_⟩; (focus (exfalso; (first | (with_reducible (cases h; done)) | (revert h; simp; done) | (revert h; simp; omega) | (revert h; simp [*]; done)))); clear h))
  refine ⟨[], _, few_ok _ c _ (by omega) (hsr.rh _), ?_⟩
  rintro _ _ ⟨rfl, rfl⟩
  cases c1 : fewB c
  · repeat (first | (refine ⟨fun h => ?_, fun h => ?_⟩; rotate_left 1; (focus (exfalso; (first | (with_reducible (cases h; done)) | (revert h; simp; done) | (revert h; simp; omega) | (revert h; simp [*]; done)))); clear h) | (refine ⟨fun h => ?_, fun h => ?_⟩; (focus (exfalso; (first | (with_reducible (cases h; done)) | (revert h; simp; done) | (revert h; simp; omega) | (revert h; simp [*]; done)))); clear h))
    refine ⟨[], _, awake_ok _ (hG.rh _), ?_⟩
    rintro _ _ ⟨rfl, rfl⟩
    exact ⟨_, Ent.refl _, rfl⟩
  obtain ⟨hsm, hl20, h64⟩ := fewB_small c1
  by_cases c2 : m < 0
  · repeat (first | (refine ⟨fun h => ?_, fun h => ?_⟩; rotate_left 1; (focus (exfalso; (first | (with_reducible (cases h; done)) | (revert h; simp; done) | (revert h; simp; omega) | (revert h; simp [*]; done)))); clear h) | (refine ⟨fun h => ?_, fun h => ?_⟩; (focus (exfalso; (first | (with_reducible (cases h; done)) | (revert h; simp; done) | (revert h; simp; omega) | (revert h; simp [*]; done)))); clear h))
    refine ⟨[], _, awake_ok _ (hG.rh _), ?_⟩
    rintro _ _ ⟨rfl, rfl⟩
    exact ⟨_, Ent.refl _, rfl⟩
  by_cases c3 : n < m
  · repeat (first | (refine ⟨fun h => ?_, fun h => ?_⟩; rotate_left 1; (focus (exfalso; (first | (with_reducible (cases h; done)) | (revert h; simp; done) | (revert h; simp; omega) | (revert h; simp [*]; done)))); clear h) | (refine ⟨fun h => ?_, fun h => ?_⟩; (focus (exfalso; (first | (with_reducible (cases h; done)) | (revert h; simp; done) | (revert h; simp; omega) | (revert h; simp [*]; done)))); clear h))
    refine ⟨[], _, awake_ok _ (hG.rh _), ?_⟩
    rintro _ _ ⟨rfl, rfl⟩
    exact ⟨_, Ent.refl _, rfl⟩
  by_cases c4 : (c.length : Int) < n
  · repeat (first | (refine ⟨fun h => ?_, fun h => ?_⟩; rotate_left 1; (focus (exfalso; (first | (with_reducible (cases h; done)) | (revert h; simp; done) | (revert h; simp; omega) | (revert h; simp [*]; done)))); clear h) | (refine ⟨fun h => ?_, fun h => ?_⟩; (focus (exfalso; (first | (with_reducible (cases h; done)) | (revert h; simp; done) | (revert h; simp; omega) | (revert h; simp [*]; done)))); clear h))
    refine ⟨[], _, awake_ok _ (hG.rh _), ?_⟩
    rintro _ _ ⟨rfl, rfl⟩
    exact ⟨_, Ent.refl _, rfl⟩
  obtain ⟨m, rfl⟩ := Int.eq_ofNat_of_zero_le (show 0 ≤ m by omega)
  obtain ⟨n, rfl⟩ := Int.eq_ofNat_of_zero_le (show 0 ≤ n by omega)
  have hmn : m ≤ n := by omega
  have hnc : n ≤ c.length := by omega
  repeat (first | (refine ⟨fun h => ?_, fun h => ?_⟩; rotate_left 1; (focus (exfalso; (first | (with_reducible (cases h; done)) | (revert h; simp; done) | (revert h; simp; omega) | (revert h; simp [*]; done)))); clear h) | (refine ⟨fun h => ?_, fun h => ?_⟩; (focus (exfalso; (first | (with_reducible (cases h; done)) | (revert h; simp; done) | (revert h; simp; omega) | (revert h; simp [*]; done)))); clear h))
  refine ⟨[], _, NewTree_ok _, ?_⟩
  rintro _ _ ⟨g, g1, rfl, rfl⟩
  refine ⟨[none, none, none, none, none, none, none, none, some 8, none, none, none, none, none, none, none, none, none, none, none, none, none, none, none, none, none, none, none, none, none, none, none, none, none, none, none, none, none, none, some 39, some 40, some 41, some 42, some 43, some 44, some 45, some 46, some 47, some 48, some 49, some 50, some 51, some 52], [8], Nat × Nat × Nat × Nat × List Value × (Nat → Lm), fun ⟨i, gl, K, cl, ls, lm⟩ => i ≤ c.length ∧ TreeS (leavesOf (c.take i)) K ls lm, fun ⟨i, _⟩ => [.int .i64 i],
    fun ⟨i, gl, K, cl, ls, lm⟩ => treeL g gl K cl ls lm, fun ⟨i, _⟩ => c.length - i, (0, g1, 1, 1, _, _), ⟨Nat.zero_le _, Mid0⟩, ⟨rfl, trivial⟩, Ent.tree0 g g1, ?_⟩
  rintro ⟨i, gl, K, cl, ls, lm⟩ ⟨hi, hT⟩ js
  refine ⟨fun hb => ?_, fun hb => ?_⟩
  · replace hb := of_decide_eq_true hb
    have hil : i < c.length := by omega
    clear hb
    obtain ⟨a, ha, hr⟩ := hsr.one hil
    have hx : (c.getD i []).length ≤ 64 := h64 _ (by rw [List.getD_eq_getElem?_getD, List.getElem?_eq_getElem hil]; exact List.getElem_mem _)
    refine ⟨by omega, by omega, a, ha, _, .inl hr, ?_⟩
    refine ⟨show (c.getD i []).length ≤ maxLen by omega, fun g2 cap2 => ?_⟩
    refine ⟨[7], _, fn_row 0 rfl (callable Tryd.func17 rfl (by kernel_rfl)) fun hcap _ => Fn.frame (h := []) (k := [_]) (Leaf_ok _ ((hG.rh _).rh _) (c.getD i []) _ _ (by omega) hcap (SlR.own 0 rfl (by rw [BV_length, Nat.mul_one]) (.inr ⟨g2, rfl⟩))), ?_⟩
    rintro _ _ ⟨_, rfl, rfl, rfl⟩
    have hcl : (leavesOf (c.take i)).length = i := by rw [leavesOf_length, List.length_take]; omega
    have hsl : Small (leavesOf (c.take i) ++ [leafOf (c.getD i [])]) := by rw [leavesOf_snoc hil]; exact leavesOf_small (by rw [List.length_take]; omega)
    refine ⟨[0, 0, 0, 0, 0, 0, 0], _, Add_ok _ (hG.rh _) g (leavesOf (c.take i)) (leafOf (c.getD i [])) _ hsl (by omega) (leafOf_length _) ⟨gl, K, cl, ls, lm, hT, rfl⟩, ?_⟩
    rintro _ _ ⟨rfl, gl', K', cl', ls', lm', hT', rfl⟩
    rw [leavesOf_snoc hil] at hT'
    (intro z hz; obtain rfl : z = ((i + 1 : Nat) : Int) := (by first | (rw [IntKind.wrap_i64] at hz; omega) | (rw [IntKind.wrap_u64] at hz; omega) | omega); clear hz)
    exact ⟨rfl, (i + 1, gl', K', cl', ls', lm'), ⟨hil, hT'⟩, by show c.length - (i + 1) < c.length - i; omega, ⟨rfl, trivial⟩, Ent.dropr [_] _, rfl⟩
  · replace hb := of_decide_eq_false hb
    obtain rfl : i = c.length := by omega
    clear hb
    rw [List.take_length] at hT
    have hLl := leavesOf_length c
    have hLs := leavesOf_sums c
    have hLm := leavesOf_small (c := c) (by omega)
    have hlaw := grows (l := leavesOf c) hmn (by omega) hLs
    have hps := consOf_sums hmn (by omega : n ≤ (leavesOf c).length) hLs
    have hpl := consOf_len (m := m) (by omega : n ≤ (leavesOf c).length)
    have hr1 : (rootOf ((leavesOf c).take m)).length ≤ 1000000 := (hLm.take m).root
    generalize leavesOf c = L at *
    refine ⟨[], _, TRoot_n _ (hG.rh _) g L (tree_readS _ hT) hLm (by omega) m (by omega), ?_⟩
    rintro _ _ ⟨rfl, rfl⟩
    refine ⟨[], _, TRoot_n _ (hG.rh _) g L (tree_readS _ hT) hLm (by omega) n (by omega), ?_⟩
    rintro _ _ ⟨rfl, rfl⟩
    refine ⟨[], _, TCons_n _ (hG.rh _) g L (tree_readS _ hT) hLm (by omega) m n hmn (by omega), ?_⟩
    rintro _ _ ⟨A1, k1, cap1, xs1, rfl, hg1, hcap1, rfl, rfl, rfl⟩
    generalize consOf L m n = p at *
    repeat (first | (refine ⟨fun h => ?_, fun h => ?_⟩; rotate_left 1; (focus (exfalso; (first | (with_reducible (cases h; done)) | (revert h; simp; done) | (revert h; simp; omega) | (revert h; simp [*]; done)))); clear h) | (refine ⟨fun h => ?_, fun h => ?_⟩; (focus (exfalso; (first | (with_reducible (cases h; done)) | (revert h; simp; done) | (revert h; simp; omega) | (revert h; simp [*]; done)))); clear h))
    refine ⟨[], _, Consistent_ok _ (hG.rh _) _ _ _ _ p _ (by omega) (by omega) hr1 ⟨by omega, fun s hs => by have := sumsB_iff.1 hps s hs; omega⟩ (Ss.own 7 rfl rfl hg1 hcap1), ?_⟩
    rintro _ _ ⟨rfl, rfl⟩
    rw [hlaw]
    repeat (first | (refine ⟨fun h => ?_, fun h => ?_⟩; rotate_left 1; (focus (exfalso; (first | (with_reducible (cases h; done)) | (revert h; simp; done) | (revert h; simp; omega) | (revert h; simp [*]; done)))); clear h) | (refine ⟨fun h => ?_, fun h => ?_⟩; (focus (exfalso; (first | (with_reducible (cases h; done)) | (revert h; simp; done) | (revert h; simp; omega) | (revert h; simp [*]; done)))); clear h))
    exact ⟨_, Ent.nil _, rfl⟩

end Go.Proofs.YtgbdfpfiolbhlaaDoor
