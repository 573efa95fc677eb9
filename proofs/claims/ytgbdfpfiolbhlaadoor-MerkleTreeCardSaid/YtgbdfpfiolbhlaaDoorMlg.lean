/-
  The law MerkleTree.
-/
import Derived.Test.YtgbdfpfiolbhlaaDoorMlf
namespace Go.Proofs.YtgbdfpfiolbhlaaDoor
open Go Go.RowKit
set_option linter.unusedVariables false
set_option linter.unusedSimpArgs false

structure TOp where
  k : Int
  s : Str
  m : Int
  n : Int
def TOp.cells (x : TOp) : List Value := [.int .i64 x.k, .string ⟨⟨x.s⟩⟩, .int .i64 x.m, .int .i64 x.n]
structure TOp.Ok (x : TOp) : Prop where
  k1 : -9223372036854775808 ≤ x.k
  k2 : x.k ≤ 9223372036854775807
  m1 : -9223372036854775808 ≤ x.m
  m2 : x.m ≤ 9223372036854775807
  n1 : -9223372036854775808 ≤ x.n
  n2 : x.n ≤ 9223372036854775807
  s : x.s.length ≤ 9223372036854775807
abbrev TOpShp : Shp := .fc 0 1 (.int .i64) (.fc 1 1 .str (.fc 2 1 (.int .i64) (.fc 3 1 (.int .i64) (.f0 4))))
theorem TOp.of {R : Rd} {xs : List Value} (hs : Seen R TOpShp xs) : ∃ x : TOp, x.Ok ∧ xs = x.cells := by
  obtain ⟨⟨k, hk, wk⟩, ⟨s, hs', ws⟩, ⟨m, hm, wm⟩, ⟨n, hn, wn⟩, hl⟩ := hs
  match xs, hl with
  | [x0, x1, x2, x3], _ =>
    simp only [List.drop_zero, List.drop_succ_cons, List.take_succ_cons, List.take_zero, List.cons.injEq, and_true] at hk hs' hm hn
    subst hk hs' hm hn
    have wk' : -9223372036854775808 ≤ k ∧ k ≤ 9223372036854775807 := by simpa [Lit.wf, IntKind.has, IntKind.min, IntKind.max, IntKind.bits, IntKind.signed] using wk
    have wn' : -9223372036854775808 ≤ n ∧ n ≤ 9223372036854775807 := by simpa [Lit.wf, IntKind.has, IntKind.min, IntKind.max, IntKind.bits, IntKind.signed] using wn
    have wm' : -9223372036854775808 ≤ m ∧ m ≤ 9223372036854775807 := by simpa [Lit.wf, IntKind.has, IntKind.min, IntKind.max, IntKind.bits, IntKind.signed] using wm
    obtain ⟨⟨s⟩⟩ := s
    have ws' : s.length ≤ maxLen := ws
    rw [maxLen_eq] at ws'
    exact ⟨⟨k, s, m, n⟩, ⟨wk'.1, wk'.2, wm'.1, wm'.2, wn'.1, wn'.2, ws'⟩, rfl⟩

def TOpsR (R : Rd) (v : Value) (l : List TOp) : Prop := SlR R 4 v l.length (l.flatMap TOp.cells)
theorem SeenV.tops {R : Rd} {v : Value} (h : SeenV R (.sl 4 TOpShp) v) : ∃ l : List TOp, (∀ x ∈ l, x.Ok) ∧ l.length ≤ maxLen ∧ TOpsR R v l :=
  h.slice TOp.cells TOp.Ok (fun _ _ => rfl) fun _ _ hs => TOp.of hs
theorem flat_at {α : Type} {c : α → List Value} {sz : Nat} : ∀ {l : List α}, (∀ x ∈ l, (c x).length = sz) → ∀ {i j : Nat} {x : α} {u : Value}, l[i]? = some x → (c x)[j]? = some u → (l.flatMap c)[i * sz + j]? = some u
  | [], _, i, j, x, u, h, _ => by simp at h
  | y :: l, hl, 0, j, x, u, h, hu => by
    simp at h
    subst h
    have := hl y (by simp)
    have hj := (List.getElem?_eq_some_iff.1 hu).1
    rw [List.flatMap_cons, List.getElem?_append_left (by omega), Nat.zero_mul, Nat.zero_add]
    exact hu
  | y :: l, hl, i + 1, j, x, u, h, hu => by
    have := hl y (by simp)
    have hj := (List.getElem?_eq_some_iff.1 hu).1
    rw [List.flatMap_cons, List.getElem?_append_right (by rw [Nat.add_mul]; omega), this, show (i + 1) * sz + j - sz = i * sz + j by rw [Nat.add_mul]; omega]
    exact flat_at (fun z hz => hl z (by simp [hz])) (by simpa using h) hu
theorem TOpsR.form {R : Rd} {v : Value} {l : List TOp} (h : TOpsR R v l) : ∃ A cap, v = .slice A l.length cap := by
  obtain ⟨_, A, cap, rfl, _⟩ := h
  exact ⟨A, cap, rfl⟩
theorem TOpsR.at_ {R : Rd} {A : Option Addr} {n cap : Nat} {l : List TOp} (h : TOpsR R (.slice A n cap) l) {i : Nat} {x : TOp} (hx : l[i]? = some x) : ∃ a, A = some a ∧ ∀ j u, x.cells[j]? = some u → R (a.add (i * 4 + j)) u := by
  obtain ⟨_, A', cap', hv, hr⟩ := h
  cases hv
  obtain ⟨a, rfl, _⟩ := hr (i * 4 + 0) _ (flat_at (sz := 4) (c := TOp.cells) (fun _ _ => rfl) hx (j := 0) (u := .int .i64 x.k) rfl)
  refine ⟨a, rfl, fun j u hu => ?_⟩
  obtain ⟨a', ha, hR⟩ := hr (i * 4 + j) u (flat_at (sz := 4) (c := TOp.cells) (fun _ _ => rfl) hx hu)
  cases ha
  exact hR
theorem rdn {R : Rd} {a : Addr} {i sz : Nat} {vs : List Value} (h : ∀ j u, vs[j]? = some u → R (a.add (i * sz + j)) u) : ∀ j u, vs[j]? = some u → R ((addA a (Int.toNat (i : Int) * sz)).add j) u := by
  intro j u hu
  rw [show Int.toNat (i : Int) * sz = i * sz by simp, ← addA_eq, add_add]
  exact h j u hu

theorem Ent.sub {a b : Hp} (h : b.Sublist a) : Ent a b := by
  obtain ⟨l, p⟩ := h.exists_perm_append
  exact (Ent.perm p).trans (Ent.drop b l)
theorem ent_mid (t : Hp) (b r : HA) (e : Hp) : Ent (t ++ b :: r :: e) (t ++ [r]) := Ent.sub (List.Sublist.append_left (.cons b (.cons_cons r (List.nil_sublist e))) t)
theorem ent_tail (t : Hp) (r : HA) (e : Hp) : Ent (t ++ r :: e) (t ++ [r]) := Ent.sub (List.Sublist.append_left (.cons_cons r (List.nil_sublist e)) t)
theorem ent_head (t : Hp) (r b : HA) (e : Hp) : Ent (r :: b :: (t ++ e)) (t ++ [r]) :=
  ((Ent.perm (List.perm_append_comm (l₁ := [r, b]) (l₂ := t ++ e))).trans (Ent.perm (List.Perm.of_eq (List.append_assoc t e [r, b])))).trans
    (Ent.sub (List.Sublist.append_left ((List.Sublist.append (List.nil_sublist e) (.cons_cons r (List.nil_sublist [b]))) : [r].Sublist (e ++ [r, b])) t))
theorem ent_head2 (t : Hp) (b r : HA) (e : Hp) : Ent (b :: r :: (t ++ e)) (t ++ [r]) :=
  (Ent.perm (List.Perm.swap r b _)).trans (ent_head t r b e)

theorem TRoot_bad (R : Rd) (hG : ShaG R) (g : Nat) (l : List Str) (hT : TreeR R g l) (hl : Small l) (hl6 : l.length ≤ 1000000) (n : Int) (hn : ¬ (0 ≤ n ∧ n ≤ l.length)) :
    Fn Tryd.prog 47 [.pointer (some ⟨g, 0, .none⟩), .int .i64 n] [] R (fun v h => v = .tuple ⟨[.string ⟨⟨[]⟩⟩, .int .i64 1]⟩ ∧ h = []) :=
  Fn.post (TRoot_ok R hG g l hT hl hl6 n) fun v h w ⟨e, eh⟩ _ => ⟨by rw [e, rootV, if_neg hn], eh⟩

set_option maxRecDepth 100000 in
set_option maxHeartbeats 64000000 in
theorem MerkleTree_law (R : Rd) (hG : ShaG R) (v0 : Value) (s0 : SeenV R (.sl 4 TOpShp) v0) :
    Fn Tryd.prog 15 [v0] [] R (fun v _ => v = .bool true) := by
  obtain ⟨os, hok, hol, hos⟩ := s0.tops
  obtain ⟨B, cap0, rfl⟩ := hos.form
  have hML := maxLen_eq
  refine fn_of_vc mixed tabOk Tryd.func15 rfl (by kernel_rfl) (Nat.le_of_ble_eq_true rfl) ?_
  refine ⟨[], _, awake_ok _ (hG.rh _), ?_⟩
  rintro _ _ ⟨rfl, rfl⟩
  by_cases c1 : (25 : Int) < os.length
  · repeat (focus (refine ⟨fun h => ?_, fun h => ?_⟩; (first | (focus (exfalso; (first | (with_reducible (cases h; done)) | exact absurd (of_decide_eq_true h) (by assumption) | exact absurd (by assumption) (of_decide_eq_false h)))) | (rotate_left 1; focus (exfalso; (first | (with_reducible (cases h; done)) | exact absurd (of_decide_eq_true h) (by assumption) | exact absurd (by assumption) (of_decide_eq_false h)))) | (focus (exfalso; (simp only [decide_eq_true_eq, decide_eq_false_iff_not, Bool.not_eq_true', Bool.not_eq_false', Bool.not_eq_eq_eq_not, Bool.not_true, Bool.not_false, not_true_eq_false, not_false_eq_true, Int.not_lt, Int.not_le] at h <;> omega))) | (rotate_left 1; focus (exfalso; (simp only [decide_eq_true_eq, decide_eq_false_iff_not, Bool.not_eq_true', Bool.not_eq_false', Bool.not_eq_eq_eq_not, Bool.not_true, Bool.not_false, not_true_eq_false, not_false_eq_true, Int.not_lt, Int.not_le] at h <;> omega))) | (focus (exfalso; (revert h; simp; done))) | (rotate_left 1; focus (exfalso; (revert h; simp; done)))); clear h))
    refine ⟨[], _, awake_ok _ (hG.rh _), ?_⟩
    rintro _ _ ⟨rfl, rfl⟩
    exact ⟨_, Ent.refl _, rfl⟩
  repeat (focus (refine ⟨fun h => ?_, fun h => ?_⟩; (first | (focus (exfalso; (first | (with_reducible (cases h; done)) | exact absurd (of_decide_eq_true h) (by assumption) | exact absurd (by assumption) (of_decide_eq_false h)))) | (rotate_left 1; focus (exfalso; (first | (with_reducible (cases h; done)) | exact absurd (of_decide_eq_true h) (by assumption) | exact absurd (by assumption) (of_decide_eq_false h)))) | (focus (exfalso; (simp only [decide_eq_true_eq, decide_eq_false_iff_not, Bool.not_eq_true', Bool.not_eq_false', Bool.not_eq_eq_eq_not, Bool.not_true, Bool.not_false, not_true_eq_false, not_false_eq_true, Int.not_lt, Int.not_le] at h <;> omega))) | (rotate_left 1; focus (exfalso; (simp only [decide_eq_true_eq, decide_eq_false_iff_not, Bool.not_eq_true', Bool.not_eq_false', Bool.not_eq_eq_eq_not, Bool.not_true, Bool.not_false, not_true_eq_false, not_false_eq_true, Int.not_lt, Int.not_le] at h <;> omega))) | (focus (exfalso; (revert h; simp; done))) | (rotate_left 1; focus (exfalso; (revert h; simp; done)))); clear h))
  refine ⟨[], _, NewTree_ok _, ?_⟩
  rintro _ _ ⟨g, g1, rfl, rfl⟩
  refine ⟨rfl, fun g2 => ?_⟩
  refine ⟨[none, none, some 2, none, some 4, some 5, some 6, some 7, some 8, some 9, some 10, some 11, some 12, some 13, some 14, some 15, some 16, some 17, some 18, none, none, none, none, none, none, none, none, none, none, some 29, some 30, some 31, some 32, some 33, some 34, some 35, some 36, some 37, some 38, some 39, some 40, some 41, some 42, some 43, some 44, some 45, some 46, some 47, some 48, some 49, some 50, some 51, some 52, some 53, some 54, some 55, some 56, some 57, some 58, some 59, some 60, some 61, some 62, some 63, some 64, some 65, some 66, some 67, some 68, some 69, some 70, some 71, some 72, some 73, some 74, some 75, some 76, some 77, some 78, some 79, some 80, some 81, some 82, some 83, some 84, some 85, some 86, some 87, some 88, some 89, some 90, some 91, some 92, some 93, some 94, some 95, some 96, some 97, some 98, some 99, some 100, some 101, some 102, some 103, some 104, some 105, some 106, some 107, some 108, some 109, some 110, some 111, some 112, some 113, some 114, some 115, some 116, some 117, some 118, some 119, some 120, some 121, some 122, some 123, some 124, some 125, some 126, some 127, some 128, some 129, some 130, some 131, some 132, some 133, some 134, some 135, some 136, some 137, some 138, some 139, some 140, some 141, some 142, some 143, some 144, some 145, some 146, some 147, some 148, some 149, some 150, some 151, some 152, some 153, some 154, some 155, some 156, some 157, some 158, some 159, some 160, some 161, some 162, some 163, some 164, some 165, some 166, some 167, some 168, some 169, some 170, some 171, some 172, some 173, some 174, some 175, some 176, some 177, some 178, some 179, some 180, some 181, some 182, some 183, some 184, some 185, some 186, some 187, some 188, some 189, some 190, some 191, some 192, some 193, some 194, some 195, some 196, some 197, some 198, some 199, some 200, some 201, some 202, some 203, some 204], [4, 5], Nat × List Str × Option Addr × Nat × Nat × List Value × Nat × Nat × Nat × List Value × (Nat → Lm),
    fun ⟨i, l, A, k, cap, xs, gl, K, cl, ls, lm⟩ => (i ≤ os.length ∧ l.length ≤ i ∧ sumsB l = true) ∧ (k = l.length ∧ xs = SV l ∧ grow k A) ∧ TreeS l K ls lm,
    fun ⟨i, _, A, k, cap, _⟩ => [.slice A k cap, .int .i64 i],
    fun ⟨_, _, A, k, cap, xs, gl, K, cl, ls, lm⟩ => treeL g gl K cl ls lm ++ [.row A k cap 9 1 xs (0, 0)], fun ⟨i, _⟩ => os.length - i,
    (0, [], some ⟨g2, 0, .none⟩, 0, 0, [], g1, 1, 1, _, _), ⟨⟨Nat.zero_le _, Nat.zero_le _, rfl⟩, ⟨rfl, rfl, .inl rfl⟩, Mid0⟩, ⟨rfl, rfl, trivial⟩, Ent.app (Ent.tree0 g g1) (Ent.refl [_]), ?_⟩
  rintro ⟨i, l, A, k, cap, xs, gl, K, cl, ls, lm⟩ ⟨⟨hi, hli, hls⟩, ⟨hk, hx, hg⟩, hT⟩ js
  have hsl : Small l := ⟨by omega, fun s hs => by have := sumsB_iff.1 hls s hs; omega⟩
  refine ⟨fun hb => ?_, fun hb => ?_⟩
  · replace hb := of_decide_eq_true hb
    have hil : i < os.length := by omega
    clear hb
    have hget : os[i]? = some os[i] := List.getElem?_eq_getElem hil
    generalize os[i] = x at hget
    have hxok := hok x (List.mem_of_getElem? hget)
    obtain ⟨a, ha, hr⟩ := hos.at_ hget
    refine ⟨by omega, by omega, a, ha, ?_⟩
    refine ⟨_, rdn (fun j u hu => .inl (hr j u hu)), rfl, ?_⟩
    intro g6
    refine ⟨rfl, rfl, 8, rfl, rfl, Nat.le_of_ble_eq_true rfl, ?_⟩
    refine ⟨_, ld 8 rfl rfl, ?_⟩
    by_cases c2 : (64 : Int) < x.s.length
    · repeat (focus (refine ⟨fun h => ?_, fun h => ?_⟩; (first | (focus (exfalso; (first | (with_reducible (cases h; done)) | exact absurd (of_decide_eq_true h) (by assumption) | exact absurd (by assumption) (of_decide_eq_false h)))) | (rotate_left 1; focus (exfalso; (first | (with_reducible (cases h; done)) | exact absurd (of_decide_eq_true h) (by assumption) | exact absurd (by assumption) (of_decide_eq_false h)))) | (focus (exfalso; (simp only [decide_eq_true_eq, decide_eq_false_iff_not, Bool.not_eq_true', Bool.not_eq_false', Bool.not_eq_eq_eq_not, Bool.not_true, Bool.not_false, not_true_eq_false, not_false_eq_true, Int.not_lt, Int.not_le] at h <;> omega))) | (rotate_left 1; focus (exfalso; (simp only [decide_eq_true_eq, decide_eq_false_iff_not, Bool.not_eq_true', Bool.not_eq_false', Bool.not_eq_eq_eq_not, Bool.not_true, Bool.not_false, not_true_eq_false, not_false_eq_true, Int.not_lt, Int.not_le] at h <;> omega))) | (focus (exfalso; (revert h; simp; done))) | (rotate_left 1; focus (exfalso; (revert h; simp; done)))); clear h))
      exact ⟨_, Ent.nil _, rfl⟩
    repeat (focus (refine ⟨fun h => ?_, fun h => ?_⟩; (first | (focus (exfalso; (first | (with_reducible (cases h; done)) | exact absurd (of_decide_eq_true h) (by assumption) | exact absurd (by assumption) (of_decide_eq_false h)))) | (rotate_left 1; focus (exfalso; (first | (with_reducible (cases h; done)) | exact absurd (of_decide_eq_true h) (by assumption) | exact absurd (by assumption) (of_decide_eq_false h)))) | (focus (exfalso; (simp only [decide_eq_true_eq, decide_eq_false_iff_not, Bool.not_eq_true', Bool.not_eq_false', Bool.not_eq_eq_eq_not, Bool.not_true, Bool.not_false, not_true_eq_false, not_false_eq_true, Int.not_lt, Int.not_le] at h <;> omega))) | (rotate_left 1; focus (exfalso; (simp only [decide_eq_true_eq, decide_eq_false_iff_not, Bool.not_eq_true', Bool.not_eq_false', Bool.not_eq_eq_eq_not, Bool.not_true, Bool.not_false, not_true_eq_false, not_false_eq_true, Int.not_lt, Int.not_le] at h <;> omega))) | (focus (exfalso; (revert h; simp; done))) | (rotate_left 1; focus (exfalso; (revert h; simp; done)))); clear h))
    refine ⟨_, ld 8 rfl rfl, ?_⟩
    by_cases k1 : x.k = 1
    · repeat (focus (refine ⟨fun h => ?_, fun h => ?_⟩; (first | (focus (exfalso; (first | (with_reducible (cases h; done)) | exact absurd (of_decide_eq_true h) (by assumption) | exact absurd (by assumption) (of_decide_eq_false h)))) | (rotate_left 1; focus (exfalso; (first | (with_reducible (cases h; done)) | exact absurd (of_decide_eq_true h) (by assumption) | exact absurd (by assumption) (of_decide_eq_false h)))) | (focus (exfalso; (simp only [decide_eq_true_eq, decide_eq_false_iff_not, Bool.not_eq_true', Bool.not_eq_false', Bool.not_eq_eq_eq_not, Bool.not_true, Bool.not_false, not_true_eq_false, not_false_eq_true, Int.not_lt, Int.not_le] at h <;> omega))) | (rotate_left 1; focus (exfalso; (simp only [decide_eq_true_eq, decide_eq_false_iff_not, Bool.not_eq_true', Bool.not_eq_false', Bool.not_eq_eq_eq_not, Bool.not_true, Bool.not_false, not_true_eq_false, not_false_eq_true, Int.not_lt, Int.not_le] at h <;> omega))) | (focus (exfalso; (revert h; simp; done))) | (rotate_left 1; focus (exfalso; (revert h; simp; done)))); clear h))
      refine ⟨_, ld 8 rfl rfl, ?_⟩
      by_cases h32 : x.s.length = 32
      · have hsl2 : Small (l ++ [x.s]) := ⟨by rw [List.length_append]; show l.length + 1 ≤ _; omega, fun s hs => by
          rcases List.mem_append.1 hs with hs | hs
          · exact hsl.2 s hs
          · rw [List.mem_singleton.1 hs]; omega⟩
        have hls2 : sumsB (l ++ [x.s]) = true := sumsB_iff.2 fun s hs => by
          rcases List.mem_append.1 hs with hs | hs
          · exact sumsB_iff.1 hls s hs
          · rw [List.mem_singleton.1 hs]; exact h32
        refine ⟨[0, 0, 0, 0, 0, 0, 0], _, Add_ok _ (hG.rh _) g l x.s _ hsl2 (by omega) h32 ⟨gl, K, cl, ls, lm, hT, rfl⟩, ?_⟩
        rintro _ _ ⟨rfl, gl', K', cl', ls', lm', hT', rfl⟩
        refine ⟨_, ld 1 rfl rfl, ?_⟩
        repeat (focus (refine ⟨fun h => ?_, fun h => ?_⟩; (first | (focus (exfalso; (first | (with_reducible (cases h; done)) | exact absurd (of_decide_eq_true h) (by assumption) | exact absurd (by assumption) (of_decide_eq_false h)))) | (rotate_left 1; focus (exfalso; (first | (with_reducible (cases h; done)) | exact absurd (of_decide_eq_true h) (by assumption) | exact absurd (by assumption) (of_decide_eq_false h)))) | (focus (exfalso; (simp only [decide_eq_true_eq, decide_eq_false_iff_not, Bool.not_eq_true', Bool.not_eq_false', Bool.not_eq_eq_eq_not, Bool.not_true, Bool.not_false, not_true_eq_false, not_false_eq_true, Int.not_lt, Int.not_le] at h <;> omega))) | (rotate_left 1; focus (exfalso; (simp only [decide_eq_true_eq, decide_eq_false_iff_not, Bool.not_eq_true', Bool.not_eq_false', Bool.not_eq_eq_eq_not, Bool.not_true, Bool.not_false, not_true_eq_false, not_false_eq_true, Int.not_lt, Int.not_le] at h <;> omega))) | (focus (exfalso; (revert h; simp; done))) | (rotate_left 1; focus (exfalso; (revert h; simp; done)))); clear h))
        refine ⟨_, ld 1 rfl rfl, ?_⟩
        refine ⟨rfl, fun g3 => ?_⟩
        refine ⟨[.string ⟨⟨x.s⟩⟩], rfl, rdRow 9 rfl, rfl, by show (_ + _) * 16 ≤ _; omega, by omega, .inr ⟨0, rfl, rfl, rfl, rfl, rfl, rfl, fun A' cap' hg' => ?_⟩⟩
        (intro z hz; obtain rfl : z = ((i + 1 : Nat) : Int) := (by first | (rw [IntKind.wrap_i64] at hz; omega) | (rw [IntKind.wrap_u64] at hz; omega) | omega); clear hz)
        refine ⟨rfl, (i + 1, l ++ [x.s], A', k + 1, cap', xs ++ [.string ⟨⟨x.s⟩⟩], gl', K', cl', ls', lm'), ⟨⟨hil, ?_, hls2⟩, ⟨?_, ?_, hg'⟩, hT'⟩, by show os.length - (i + 1) < os.length - i; omega, ⟨rfl, rfl, trivial⟩, ent_head (treeL g gl' K' cl' ls' lm') _ _ [_], rfl⟩
        · rw [List.length_append]; show l.length + 1 ≤ i + 1; omega
        · rw [List.length_append, hk]; rfl
        · rw [hx, SV_snoc]
      · refine ⟨[], _, Add_bad _ g x.s h32, ?_⟩
        rintro _ _ ⟨rfl, rfl⟩
        refine ⟨_, ld 8 rfl rfl, ?_⟩
        repeat (focus (refine ⟨fun h => ?_, fun h => ?_⟩; (first | (focus (exfalso; (first | (with_reducible (cases h; done)) | exact absurd (of_decide_eq_true h) (by assumption) | exact absurd (by assumption) (of_decide_eq_false h)))) | (rotate_left 1; focus (exfalso; (first | (with_reducible (cases h; done)) | exact absurd (of_decide_eq_true h) (by assumption) | exact absurd (by assumption) (of_decide_eq_false h)))) | (focus (exfalso; (simp only [decide_eq_true_eq, decide_eq_false_iff_not, Bool.not_eq_true', Bool.not_eq_false', Bool.not_eq_eq_eq_not, Bool.not_true, Bool.not_false, not_true_eq_false, not_false_eq_true, Int.not_lt, Int.not_le] at h <;> omega))) | (rotate_left 1; focus (exfalso; (simp only [decide_eq_true_eq, decide_eq_false_iff_not, Bool.not_eq_true', Bool.not_eq_false', Bool.not_eq_eq_eq_not, Bool.not_true, Bool.not_false, not_true_eq_false, not_false_eq_true, Int.not_lt, Int.not_le] at h <;> omega))) | (focus (exfalso; (revert h; simp; done))) | (rotate_left 1; focus (exfalso; (revert h; simp; done)))); clear h))
        (intro z hz; obtain rfl : z = ((i + 1 : Nat) : Int) := (by first | (rw [IntKind.wrap_i64] at hz; omega) | (rw [IntKind.wrap_u64] at hz; omega) | omega); clear hz)
        exact ⟨rfl, (i + 1, l, A, k, cap, xs, gl, K, cl, ls, lm), ⟨⟨hil, by show l.length ≤ i + 1; omega, hls⟩, ⟨hk, hx, hg⟩, hT⟩, by show os.length - (i + 1) < os.length - i; omega, ⟨rfl, rfl, trivial⟩, ent_tail (treeL g gl K cl ls lm) _ [_], rfl⟩
    by_cases k2 : x.k = 2
    · repeat (focus (refine ⟨fun h => ?_, fun h => ?_⟩; (first | (focus (exfalso; (first | (with_reducible (cases h; done)) | exact absurd (of_decide_eq_true h) (by assumption) | exact absurd (by assumption) (of_decide_eq_false h)))) | (rotate_left 1; focus (exfalso; (first | (with_reducible (cases h; done)) | exact absurd (of_decide_eq_true h) (by assumption) | exact absurd (by assumption) (of_decide_eq_false h)))) | (focus (exfalso; (simp only [decide_eq_true_eq, decide_eq_false_iff_not, Bool.not_eq_true', Bool.not_eq_false', Bool.not_eq_eq_eq_not, Bool.not_true, Bool.not_false, not_true_eq_false, not_false_eq_true, Int.not_lt, Int.not_le] at h <;> omega))) | (rotate_left 1; focus (exfalso; (simp only [decide_eq_true_eq, decide_eq_false_iff_not, Bool.not_eq_true', Bool.not_eq_false', Bool.not_eq_eq_eq_not, Bool.not_true, Bool.not_false, not_true_eq_false, not_false_eq_true, Int.not_lt, Int.not_le] at h <;> omega))) | (focus (exfalso; (revert h; simp; done))) | (rotate_left 1; focus (exfalso; (revert h; simp; done)))); clear h))
      refine ⟨_, ld 8 rfl rfl, ?_⟩
      by_cases hn : 0 ≤ x.n ∧ x.n ≤ l.length
      · obtain ⟨n, hxn⟩ := Int.eq_ofNat_of_zero_le hn.1
        rw [hxn] at hn ⊢
        refine ⟨[7], _, fn_rowc 0 rfl (callable Tryd.func47 rfl (by kernel_rfl)) fun hcap _ => Fn.frame (h := []) (k := [_]) (TRoot_n _ ((hG.rh _).rh _) g l ((tree_readS (R := R) hT).mono fun a v hv => .inl (hv.imp id fun ⟨y, hy, hc⟩ => ⟨y, List.mem_append_left _ hy, hc⟩)) hsl (by omega) n (by omega)), ?_⟩
        rintro _ _ ⟨hcap, _, rfl, rfl, rfl⟩
        refine ⟨_, ld 7 rfl rfl, ?_⟩
        rw [hxn]
        repeat (focus (refine ⟨fun h => ?_, fun h => ?_⟩; (first | (focus (exfalso; (first | (with_reducible (cases h; done)) | exact absurd (of_decide_eq_true h) (by assumption) | exact absurd (by assumption) (of_decide_eq_false h)))) | (rotate_left 1; focus (exfalso; (first | (with_reducible (cases h; done)) | exact absurd (of_decide_eq_true h) (by assumption) | exact absurd (by assumption) (of_decide_eq_false h)))) | (focus (exfalso; (simp only [decide_eq_true_eq, decide_eq_false_iff_not, Bool.not_eq_true', Bool.not_eq_false', Bool.not_eq_eq_eq_not, Bool.not_true, Bool.not_false, not_true_eq_false, not_false_eq_true, Int.not_lt, Int.not_le] at h <;> omega))) | (rotate_left 1; focus (exfalso; (simp only [decide_eq_true_eq, decide_eq_false_iff_not, Bool.not_eq_true', Bool.not_eq_false', Bool.not_eq_eq_eq_not, Bool.not_true, Bool.not_false, not_true_eq_false, not_false_eq_true, Int.not_lt, Int.not_le] at h <;> omega))) | (focus (exfalso; (revert h; simp; done))) | (rotate_left 1; focus (exfalso; (revert h; simp; done)))); clear h))
        refine ⟨_, ld 7 rfl rfl, ?_⟩
        rw [hxn]
        repeat (focus (refine ⟨fun h => ?_, fun h => ?_⟩; (first | (focus (exfalso; (first | (with_reducible (cases h; done)) | exact absurd (of_decide_eq_true h) (by assumption) | exact absurd (by assumption) (of_decide_eq_false h)))) | (rotate_left 1; focus (exfalso; (first | (with_reducible (cases h; done)) | exact absurd (of_decide_eq_true h) (by assumption) | exact absurd (by assumption) (of_decide_eq_false h)))) | (focus (exfalso; (simp only [decide_eq_true_eq, decide_eq_false_iff_not, Bool.not_eq_true', Bool.not_eq_false', Bool.not_eq_eq_eq_not, Bool.not_true, Bool.not_false, not_true_eq_false, not_false_eq_true, Int.not_lt, Int.not_le] at h <;> omega))) | (rotate_left 1; focus (exfalso; (simp only [decide_eq_true_eq, decide_eq_false_iff_not, Bool.not_eq_true', Bool.not_eq_false', Bool.not_eq_eq_eq_not, Bool.not_true, Bool.not_false, not_true_eq_false, not_false_eq_true, Int.not_lt, Int.not_le] at h <;> omega))) | (focus (exfalso; (revert h; simp; done))) | (rotate_left 1; focus (exfalso; (revert h; simp; done)))); clear h))
        refine ⟨_, ld 7 rfl rfl, ?_⟩
        rw [hxn]
        repeat (focus (refine ⟨fun h => ?_, fun h => ?_⟩; (first | (focus (exfalso; (first | (with_reducible (cases h; done)) | exact absurd (of_decide_eq_true h) (by assumption) | exact absurd (by assumption) (of_decide_eq_false h)))) | (rotate_left 1; focus (exfalso; (first | (with_reducible (cases h; done)) | exact absurd (of_decide_eq_true h) (by assumption) | exact absurd (by assumption) (of_decide_eq_false h)))) | (focus (exfalso; (simp only [decide_eq_true_eq, decide_eq_false_iff_not, Bool.not_eq_true', Bool.not_eq_false', Bool.not_eq_eq_eq_not, Bool.not_true, Bool.not_false, not_true_eq_false, not_false_eq_true, Int.not_lt, Int.not_le] at h <;> omega))) | (rotate_left 1; focus (exfalso; (simp only [decide_eq_true_eq, decide_eq_false_iff_not, Bool.not_eq_true', Bool.not_eq_false', Bool.not_eq_eq_eq_not, Bool.not_true, Bool.not_false, not_true_eq_false, not_false_eq_true, Int.not_lt, Int.not_le] at h <;> omega))) | (focus (exfalso; (revert h; simp; done))) | (rotate_left 1; focus (exfalso; (revert h; simp; done)))); clear h))
        refine ⟨0, n, rfl, rfl, by omega, by omega, ?_⟩
        repeat (focus (refine ⟨fun h => ?_, fun h => ?_⟩; (first | (focus (exfalso; (first | (with_reducible (cases h; done)) | exact absurd (of_decide_eq_true h) (by assumption) | exact absurd (by assumption) (of_decide_eq_false h)))) | (rotate_left 1; focus (exfalso; (first | (with_reducible (cases h; done)) | exact absurd (of_decide_eq_true h) (by assumption) | exact absurd (by assumption) (of_decide_eq_false h)))) | (focus (exfalso; (simp only [decide_eq_true_eq, decide_eq_false_iff_not, Bool.not_eq_true', Bool.not_eq_false', Bool.not_eq_eq_eq_not, Bool.not_true, Bool.not_false, not_true_eq_false, not_false_eq_true, Int.not_lt, Int.not_le] at h <;> omega))) | (rotate_left 1; focus (exfalso; (simp only [decide_eq_true_eq, decide_eq_false_iff_not, Bool.not_eq_true', Bool.not_eq_false', Bool.not_eq_eq_eq_not, Bool.not_true, Bool.not_false, not_true_eq_false, not_false_eq_true, Int.not_lt, Int.not_le] at h <;> omega))) | (focus (exfalso; (revert h; simp; done))) | (rotate_left 1; focus (exfalso; (revert h; simp; done)))); clear h))
        subst hx hk
        have hss := Ss.own (R := R) (h := treeL g gl K cl ls lm ++ [.blk g6 62 x.cells, .row A l.length cap 9 1 (SV l) (0, 0)]) 8 rfl rfl hg hcap
        refine ⟨[], _, refRoot_ok _ _ (l.take n) _ rfl (hsl.take _) (hss.take (by omega)), ?_⟩
        rintro _ _ ⟨rfl, rfl⟩
        generalize rootOf (l.take n) = r
        repeat (focus (refine ⟨fun h => ?_, fun h => ?_⟩; (first | (focus (exfalso; (first | (with_reducible (cases h; done)) | exact absurd (of_decide_eq_true h) (by assumption) | exact absurd (by assumption) (of_decide_eq_false h)))) | (rotate_left 1; focus (exfalso; (first | (with_reducible (cases h; done)) | exact absurd (of_decide_eq_true h) (by assumption) | exact absurd (by assumption) (of_decide_eq_false h)))) | (focus (exfalso; (simp only [decide_eq_true_eq, decide_eq_false_iff_not, Bool.not_eq_true', Bool.not_eq_false', Bool.not_eq_eq_eq_not, Bool.not_true, Bool.not_false, not_true_eq_false, not_false_eq_true, Int.not_lt, Int.not_le] at h <;> omega))) | (rotate_left 1; focus (exfalso; (simp only [decide_eq_true_eq, decide_eq_false_iff_not, Bool.not_eq_true', Bool.not_eq_false', Bool.not_eq_eq_eq_not, Bool.not_true, Bool.not_false, not_true_eq_false, not_false_eq_true, Int.not_lt, Int.not_le] at h <;> omega))) | (focus (exfalso; (revert h; simp; done))) | (rotate_left 1; focus (exfalso; (revert h; simp; done)))); clear h))
        (intro z hz; obtain rfl : z = ((i + 1 : Nat) : Int) := (by first | (rw [IntKind.wrap_i64] at hz; omega) | (rw [IntKind.wrap_u64] at hz; omega) | omega); clear hz)
        exact ⟨rfl, (i + 1, l, A, _, cap, _, gl, K, cl, ls, lm), ⟨⟨hil, by show l.length ≤ i + 1; omega, hls⟩, ⟨rfl, rfl, hg⟩, hT⟩, by show os.length - (i + 1) < os.length - i; omega, ⟨rfl, rfl, trivial⟩, ent_mid (treeL g gl K cl ls lm) _ _ [], rfl⟩
      · refine ⟨[], _, TRoot_bad _ (hG.rh _) g l ((tree_readS (R := R) hT).mono fun a v hv => hv.imp id fun ⟨y, hy, hc⟩ => ⟨y, List.mem_append_left _ hy, hc⟩) hsl (by omega) x.n hn, ?_⟩
        rintro _ _ ⟨rfl, rfl⟩
        refine ⟨_, ld 8 rfl rfl, ?_⟩
        by_cases n0 : x.n < 0
        · repeat (focus (refine ⟨fun h => ?_, fun h => ?_⟩; (first | (focus (exfalso; (first | (with_reducible (cases h; done)) | exact absurd (of_decide_eq_true h) (by assumption) | exact absurd (by assumption) (of_decide_eq_false h)))) | (rotate_left 1; focus (exfalso; (first | (with_reducible (cases h; done)) | exact absurd (of_decide_eq_true h) (by assumption) | exact absurd (by assumption) (of_decide_eq_false h)))) | (focus (exfalso; (simp only [decide_eq_true_eq, decide_eq_false_iff_not, Bool.not_eq_true', Bool.not_eq_false', Bool.not_eq_eq_eq_not, Bool.not_true, Bool.not_false, not_true_eq_false, not_false_eq_true, Int.not_lt, Int.not_le] at h <;> omega))) | (rotate_left 1; focus (exfalso; (simp only [decide_eq_true_eq, decide_eq_false_iff_not, Bool.not_eq_true', Bool.not_eq_false', Bool.not_eq_eq_eq_not, Bool.not_true, Bool.not_false, not_true_eq_false, not_false_eq_true, Int.not_lt, Int.not_le] at h <;> omega))) | (focus (exfalso; (revert h; simp; done))) | (rotate_left 1; focus (exfalso; (revert h; simp; done)))); clear h))
          (intro z hz; obtain rfl : z = ((i + 1 : Nat) : Int) := (by first | (rw [IntKind.wrap_i64] at hz; omega) | (rw [IntKind.wrap_u64] at hz; omega) | omega); clear hz)
          exact ⟨rfl, (i + 1, l, A, k, cap, xs, gl, K, cl, ls, lm), ⟨⟨hil, by show l.length ≤ i + 1; omega, hls⟩, ⟨hk, hx, hg⟩, hT⟩, by show os.length - (i + 1) < os.length - i; omega, ⟨rfl, rfl, trivial⟩, ent_tail (treeL g gl K cl ls lm) _ [_], rfl⟩
        · have n1 : (k : Int) < x.n := by omega
          repeat (focus (refine ⟨fun h => ?_, fun h => ?_⟩; (first | (focus (exfalso; (first | (with_reducible (cases h; done)) | exact absurd (of_decide_eq_true h) (by assumption) | exact absurd (by assumption) (of_decide_eq_false h)))) | (rotate_left 1; focus (exfalso; (first | (with_reducible (cases h; done)) | exact absurd (of_decide_eq_true h) (by assumption) | exact absurd (by assumption) (of_decide_eq_false h)))) | (focus (exfalso; (simp only [decide_eq_true_eq, decide_eq_false_iff_not, Bool.not_eq_true', Bool.not_eq_false', Bool.not_eq_eq_eq_not, Bool.not_true, Bool.not_false, not_true_eq_false, not_false_eq_true, Int.not_lt, Int.not_le] at h <;> omega))) | (rotate_left 1; focus (exfalso; (simp only [decide_eq_true_eq, decide_eq_false_iff_not, Bool.not_eq_true', Bool.not_eq_false', Bool.not_eq_eq_eq_not, Bool.not_true, Bool.not_false, not_true_eq_false, not_false_eq_true, Int.not_lt, Int.not_le] at h <;> omega))) | (focus (exfalso; (revert h; simp; done))) | (rotate_left 1; focus (exfalso; (revert h; simp; done)))); clear h))
          refine ⟨_, ld 8 rfl rfl, ?_⟩
          repeat (focus (refine ⟨fun h => ?_, fun h => ?_⟩; (first | (focus (exfalso; (first | (with_reducible (cases h; done)) | exact absurd (of_decide_eq_true h) (by assumption) | exact absurd (by assumption) (of_decide_eq_false h)))) | (rotate_left 1; focus (exfalso; (first | (with_reducible (cases h; done)) | exact absurd (of_decide_eq_true h) (by assumption) | exact absurd (by assumption) (of_decide_eq_false h)))) | (focus (exfalso; (simp only [decide_eq_true_eq, decide_eq_false_iff_not, Bool.not_eq_true', Bool.not_eq_false', Bool.not_eq_eq_eq_not, Bool.not_true, Bool.not_false, not_true_eq_false, not_false_eq_true, Int.not_lt, Int.not_le] at h <;> omega))) | (rotate_left 1; focus (exfalso; (simp only [decide_eq_true_eq, decide_eq_false_iff_not, Bool.not_eq_true', Bool.not_eq_false', Bool.not_eq_eq_eq_not, Bool.not_true, Bool.not_false, not_true_eq_false, not_false_eq_true, Int.not_lt, Int.not_le] at h <;> omega))) | (focus (exfalso; (revert h; simp; done))) | (rotate_left 1; focus (exfalso; (revert h; simp; done)))); clear h))
          (intro z hz; obtain rfl : z = ((i + 1 : Nat) : Int) := (by first | (rw [IntKind.wrap_i64] at hz; omega) | (rw [IntKind.wrap_u64] at hz; omega) | omega); clear hz)
          exact ⟨rfl, (i + 1, l, A, k, cap, xs, gl, K, cl, ls, lm), ⟨⟨hil, by show l.length ≤ i + 1; omega, hls⟩, ⟨hk, hx, hg⟩, hT⟩, by show os.length - (i + 1) < os.length - i; omega, ⟨rfl, rfl, trivial⟩, ent_tail (treeL g gl K cl ls lm) _ [_], rfl⟩
    by_cases k3 : x.k = 3
    · repeat (focus (refine ⟨fun h => ?_, fun h => ?_⟩; (first | (focus (exfalso; (first | (with_reducible (cases h; done)) | exact absurd (of_decide_eq_true h) (by assumption) | exact absurd (by assumption) (of_decide_eq_false h)))) | (rotate_left 1; focus (exfalso; (first | (with_reducible (cases h; done)) | exact absurd (of_decide_eq_true h) (by assumption) | exact absurd (by assumption) (of_decide_eq_false h)))) | (focus (exfalso; (simp only [decide_eq_true_eq, decide_eq_false_iff_not, Bool.not_eq_true', Bool.not_eq_false', Bool.not_eq_eq_eq_not, Bool.not_true, Bool.not_false, not_true_eq_false, not_false_eq_true, Int.not_lt, Int.not_le] at h <;> omega))) | (rotate_left 1; focus (exfalso; (simp only [decide_eq_true_eq, decide_eq_false_iff_not, Bool.not_eq_true', Bool.not_eq_false', Bool.not_eq_eq_eq_not, Bool.not_true, Bool.not_false, not_true_eq_false, not_false_eq_true, Int.not_lt, Int.not_le] at h <;> omega))) | (focus (exfalso; (revert h; simp; done))) | (rotate_left 1; focus (exfalso; (revert h; simp; done)))); clear h))
      refine ⟨_, ld 8 rfl rfl, ?_⟩
      refine ⟨_, ld 8 rfl rfl, ?_⟩
      by_cases hn : 1 ≤ x.n ∧ x.n ≤ l.length ∧ 0 ≤ x.m ∧ x.m < x.n
      · refine ⟨[7], _, fn_rowc 0 rfl (callable Tryd.func49 rfl (by kernel_rfl)) fun hcap _ => Fn.frame (h := []) (k := [_]) (TPath_ok _ ((hG.rh _).rh _) g l ((tree_readS (R := R) hT).mono fun a v hv => .inl (hv.imp id fun ⟨y, hy, hc⟩ => ⟨y, List.mem_append_left _ hy, hc⟩)) hsl (by omega) x.m x.n), ?_⟩
        rintro _ _ ⟨hcap, _, rfl, A1, k1', cap1, xs1, rfl, hg1, hc1⟩
        rcases hc1 with ⟨hn', _⟩ | ⟨_, _, _, _, rfl, rfl, rfl⟩
        · exact absurd hn hn'
        obtain ⟨n, hxn⟩ := Int.eq_ofNat_of_zero_le (show 0 ≤ x.n by omega)
        obtain ⟨m, hxm⟩ := Int.eq_ofNat_of_zero_le (show 0 ≤ x.m by omega)
        have en : x.n.toNat = n := by omega
        have em : x.m.toNat = m := by omega
        rw [en, em] at hg1 ⊢
        refine ⟨_, ld 7 rfl rfl, ?_⟩
        repeat (focus (refine ⟨fun h => ?_, fun h => ?_⟩; (first | (focus (exfalso; (first | (with_reducible (cases h; done)) | exact absurd (of_decide_eq_true h) (by assumption) | exact absurd (by assumption) (of_decide_eq_false h)))) | (rotate_left 1; focus (exfalso; (first | (with_reducible (cases h; done)) | exact absurd (of_decide_eq_true h) (by assumption) | exact absurd (by assumption) (of_decide_eq_false h)))) | (focus (exfalso; (simp only [decide_eq_true_eq, decide_eq_false_iff_not, Bool.not_eq_true', Bool.not_eq_false', Bool.not_eq_eq_eq_not, Bool.not_true, Bool.not_false, not_true_eq_false, not_false_eq_true, Int.not_lt, Int.not_le] at h <;> omega))) | (rotate_left 1; focus (exfalso; (simp only [decide_eq_true_eq, decide_eq_false_iff_not, Bool.not_eq_true', Bool.not_eq_false', Bool.not_eq_eq_eq_not, Bool.not_true, Bool.not_false, not_true_eq_false, not_false_eq_true, Int.not_lt, Int.not_le] at h <;> omega))) | (focus (exfalso; (revert h; simp; done))) | (rotate_left 1; focus (exfalso; (revert h; simp; done)))); clear h))
        refine ⟨_, ld 7 rfl rfl, ?_⟩
        repeat (focus (refine ⟨fun h => ?_, fun h => ?_⟩; (first | (focus (exfalso; (first | (with_reducible (cases h; done)) | exact absurd (of_decide_eq_true h) (by assumption) | exact absurd (by assumption) (of_decide_eq_false h)))) | (rotate_left 1; focus (exfalso; (first | (with_reducible (cases h; done)) | exact absurd (of_decide_eq_true h) (by assumption) | exact absurd (by assumption) (of_decide_eq_false h)))) | (focus (exfalso; (simp only [decide_eq_true_eq, decide_eq_false_iff_not, Bool.not_eq_true', Bool.not_eq_false', Bool.not_eq_eq_eq_not, Bool.not_true, Bool.not_false, not_true_eq_false, not_false_eq_true, Int.not_lt, Int.not_le] at h <;> omega))) | (rotate_left 1; focus (exfalso; (simp only [decide_eq_true_eq, decide_eq_false_iff_not, Bool.not_eq_true', Bool.not_eq_false', Bool.not_eq_eq_eq_not, Bool.not_true, Bool.not_false, not_true_eq_false, not_false_eq_true, Int.not_lt, Int.not_le] at h <;> omega))) | (focus (exfalso; (revert h; simp; done))) | (rotate_left 1; focus (exfalso; (revert h; simp; done)))); clear h))
        refine ⟨_, ld 7 rfl rfl, ?_⟩
        repeat (focus (refine ⟨fun h => ?_, fun h => ?_⟩; (first | (focus (exfalso; (first | (with_reducible (cases h; done)) | exact absurd (of_decide_eq_true h) (by assumption) | exact absurd (by assumption) (of_decide_eq_false h)))) | (rotate_left 1; focus (exfalso; (first | (with_reducible (cases h; done)) | exact absurd (of_decide_eq_true h) (by assumption) | exact absurd (by assumption) (of_decide_eq_false h)))) | (focus (exfalso; (simp only [decide_eq_true_eq, decide_eq_false_iff_not, Bool.not_eq_true', Bool.not_eq_false', Bool.not_eq_eq_eq_not, Bool.not_true, Bool.not_false, not_true_eq_false, not_false_eq_true, Int.not_lt, Int.not_le] at h <;> omega))) | (rotate_left 1; focus (exfalso; (simp only [decide_eq_true_eq, decide_eq_false_iff_not, Bool.not_eq_true', Bool.not_eq_false', Bool.not_eq_eq_eq_not, Bool.not_true, Bool.not_false, not_true_eq_false, not_false_eq_true, Int.not_lt, Int.not_le] at h <;> omega))) | (focus (exfalso; (revert h; simp; done))) | (rotate_left 1; focus (exfalso; (revert h; simp; done)))); clear h))
        refine ⟨_, ld 7 rfl rfl, ?_⟩
        repeat (focus (refine ⟨fun h => ?_, fun h => ?_⟩; (first | (focus (exfalso; (first | (with_reducible (cases h; done)) | exact absurd (of_decide_eq_true h) (by assumption) | exact absurd (by assumption) (of_decide_eq_false h)))) | (rotate_left 1; focus (exfalso; (first | (with_reducible (cases h; done)) | exact absurd (of_decide_eq_true h) (by assumption) | exact absurd (by assumption) (of_decide_eq_false h)))) | (focus (exfalso; (simp only [decide_eq_true_eq, decide_eq_false_iff_not, Bool.not_eq_true', Bool.not_eq_false', Bool.not_eq_eq_eq_not, Bool.not_true, Bool.not_false, not_true_eq_false, not_false_eq_true, Int.not_lt, Int.not_le] at h <;> omega))) | (rotate_left 1; focus (exfalso; (simp only [decide_eq_true_eq, decide_eq_false_iff_not, Bool.not_eq_true', Bool.not_eq_false', Bool.not_eq_eq_eq_not, Bool.not_true, Bool.not_false, not_true_eq_false, not_false_eq_true, Int.not_lt, Int.not_le] at h <;> omega))) | (focus (exfalso; (revert h; simp; done))) | (rotate_left 1; focus (exfalso; (revert h; simp; done)))); clear h))
        refine ⟨_, ld 7 rfl rfl, ?_⟩
        repeat (focus (refine ⟨fun h => ?_, fun h => ?_⟩; (first | (focus (exfalso; (first | (with_reducible (cases h; done)) | exact absurd (of_decide_eq_true h) (by assumption) | exact absurd (by assumption) (of_decide_eq_false h)))) | (rotate_left 1; focus (exfalso; (first | (with_reducible (cases h; done)) | exact absurd (of_decide_eq_true h) (by assumption) | exact absurd (by assumption) (of_decide_eq_false h)))) | (focus (exfalso; (simp only [decide_eq_true_eq, decide_eq_false_iff_not, Bool.not_eq_true', Bool.not_eq_false', Bool.not_eq_eq_eq_not, Bool.not_true, Bool.not_false, not_true_eq_false, not_false_eq_true, Int.not_lt, Int.not_le] at h <;> omega))) | (rotate_left 1; focus (exfalso; (simp only [decide_eq_true_eq, decide_eq_false_iff_not, Bool.not_eq_true', Bool.not_eq_false', Bool.not_eq_eq_eq_not, Bool.not_true, Bool.not_false, not_true_eq_false, not_false_eq_true, Int.not_lt, Int.not_le] at h <;> omega))) | (focus (exfalso; (revert h; simp; done))) | (rotate_left 1; focus (exfalso; (revert h; simp; done)))); clear h))
        subst hx hk
        refine ⟨[7, 7], (.q 0 (.q 1 (.q 2 (.q 3 (.q 4 (.q 5 (.one 6 (.q 7 (.q 8 (.q 9 (.q 10 (.q 11 .nil)))))))))))), by kernel_rfl, ?_⟩
        refine ⟨_, ld 0 rfl rfl, ?_⟩
        refine ⟨0, n, rfl, congrArg some hxn, by omega, by omega, ?_⟩
        refine ⟨_, ld 0 rfl rfl, ?_⟩
        have hss := Ss.own (R := R) (h := [.blk g6 62 x.cells, .row A l.length cap 9 1 (SV l) (0, 0)]) 1 rfl rfl hg hcap
        have htl : (l.take n).length = n := by rw [List.length_take]; omega
        refine ⟨[], _, refPath_ok _ (l.take n) x.m _ (hsl.take _) ((hss.take (by omega)).rh _), ?_⟩
        rintro _ _ ⟨A2, k2', cap2, xs2, rfl, hg2, hc2⟩
        rcases hc2 with ⟨hn', _⟩ | ⟨_, _, rfl, rfl, rfl⟩
        · exact absurd ⟨by omega, by rw [htl]; omega⟩ hn'
        rw [em] at hg2 ⊢
        repeat (focus (refine ⟨fun h => ?_, fun h => ?_⟩; (first | (focus (exfalso; (first | (with_reducible (cases h; done)) | exact absurd (of_decide_eq_true h) (by assumption) | exact absurd (by assumption) (of_decide_eq_false h)))) | (rotate_left 1; focus (exfalso; (first | (with_reducible (cases h; done)) | exact absurd (of_decide_eq_true h) (by assumption) | exact absurd (by assumption) (of_decide_eq_false h)))) | (focus (exfalso; (simp only [decide_eq_true_eq, decide_eq_false_iff_not, Bool.not_eq_true', Bool.not_eq_false', Bool.not_eq_eq_eq_not, Bool.not_true, Bool.not_false, not_true_eq_false, not_false_eq_true, Int.not_lt, Int.not_le] at h <;> omega))) | (rotate_left 1; focus (exfalso; (simp only [decide_eq_true_eq, decide_eq_false_iff_not, Bool.not_eq_true', Bool.not_eq_false', Bool.not_eq_eq_eq_not, Bool.not_true, Bool.not_false, not_true_eq_false, not_false_eq_true, Int.not_lt, Int.not_le] at h <;> omega))) | (focus (exfalso; (revert h; simp; done))) | (rotate_left 1; focus (exfalso; (revert h; simp; done)))); clear h))
        have hple := pathR_le (l.take n).length (l.take n) m rfl
        refine ⟨[], _, same_ok _ (pathOf (l.take n) m) (pathOf (l.take n) m) _ _ (by rw [pathOf, List.length_reverse]; omega) (SlR.own 9 rfl (by rw [SV_length, Nat.mul_one]) hg1) (SlR.own 10 rfl (by rw [SV_length, Nat.mul_one]) hg2), ?_⟩
        rintro _ _ ⟨rfl, rfl⟩
        rw [decide_eq_true (rfl : pathOf (l.take n) m = pathOf (l.take n) m)]
        repeat (focus (refine ⟨fun h => ?_, fun h => ?_⟩; (first | (focus (exfalso; (first | (with_reducible (cases h; done)) | exact absurd (of_decide_eq_true h) (by assumption) | exact absurd (by assumption) (of_decide_eq_false h)))) | (rotate_left 1; focus (exfalso; (first | (with_reducible (cases h; done)) | exact absurd (of_decide_eq_true h) (by assumption) | exact absurd (by assumption) (of_decide_eq_false h)))) | (focus (exfalso; (simp only [decide_eq_true_eq, decide_eq_false_iff_not, Bool.not_eq_true', Bool.not_eq_false', Bool.not_eq_eq_eq_not, Bool.not_true, Bool.not_false, not_true_eq_false, not_false_eq_true, Int.not_lt, Int.not_le] at h <;> omega))) | (rotate_left 1; focus (exfalso; (simp only [decide_eq_true_eq, decide_eq_false_iff_not, Bool.not_eq_true', Bool.not_eq_false', Bool.not_eq_eq_eq_not, Bool.not_true, Bool.not_false, not_true_eq_false, not_false_eq_true, Int.not_lt, Int.not_le] at h <;> omega))) | (focus (exfalso; (revert h; simp; done))) | (rotate_left 1; focus (exfalso; (revert h; simp; done)))); clear h))
        (intro z hz; obtain rfl : z = ((i + 1 : Nat) : Int) := (by first | (rw [IntKind.wrap_i64] at hz; omega) | (rw [IntKind.wrap_u64] at hz; omega) | omega); clear hz)
        exact ⟨rfl, (i + 1, l, A, _, cap, _, gl, K, cl, ls, lm), ⟨⟨hil, by show l.length ≤ i + 1; omega, hls⟩, ⟨rfl, rfl, hg⟩, hT⟩, by show os.length - (i + 1) < os.length - i; omega, ⟨rfl, rfl, trivial⟩, ent_head2 (treeL g gl K cl ls lm) _ _ [_, _], rfl⟩
      · refine ⟨[], _, TPath_ok _ (hG.rh _) g l ((tree_readS (R := R) hT).mono fun a v hv => hv.imp id fun ⟨y, hy, hc⟩ => ⟨y, List.mem_append_left _ hy, hc⟩) hsl (by omega) x.m x.n, ?_⟩
        rintro _ _ ⟨A1, k1', cap1, xs1, rfl, hg1, hc1⟩
        rcases hc1 with ⟨_, rfl, rfl, rfl⟩ | ⟨b1, b2, b3, b4, _⟩
        case inr => exact absurd ⟨b1, b2, b3, b4⟩ hn
        refine ⟨_, ld 8 rfl rfl, ?_⟩
        by_cases n0 : x.n < 1
        · repeat (focus (refine ⟨fun h => ?_, fun h => ?_⟩; (first | (focus (exfalso; (first | (with_reducible (cases h; done)) | exact absurd (of_decide_eq_true h) (by assumption) | exact absurd (by assumption) (of_decide_eq_false h)))) | (rotate_left 1; focus (exfalso; (first | (with_reducible (cases h; done)) | exact absurd (of_decide_eq_true h) (by assumption) | exact absurd (by assumption) (of_decide_eq_false h)))) | (focus (exfalso; (simp only [decide_eq_true_eq, decide_eq_false_iff_not, Bool.not_eq_true', Bool.not_eq_false', Bool.not_eq_eq_eq_not, Bool.not_true, Bool.not_false, not_true_eq_false, not_false_eq_true, Int.not_lt, Int.not_le] at h <;> omega))) | (rotate_left 1; focus (exfalso; (simp only [decide_eq_true_eq, decide_eq_false_iff_not, Bool.not_eq_true', Bool.not_eq_false', Bool.not_eq_eq_eq_not, Bool.not_true, Bool.not_false, not_true_eq_false, not_false_eq_true, Int.not_lt, Int.not_le] at h <;> omega))) | (focus (exfalso; (revert h; simp; done))) | (rotate_left 1; focus (exfalso; (revert h; simp; done)))); clear h))
          (intro z hz; obtain rfl : z = ((i + 1 : Nat) : Int) := (by first | (rw [IntKind.wrap_i64] at hz; omega) | (rw [IntKind.wrap_u64] at hz; omega) | omega); clear hz)
          exact ⟨rfl, (i + 1, l, A, k, cap, xs, gl, K, cl, ls, lm), ⟨⟨hil, by show l.length ≤ i + 1; omega, hls⟩, ⟨hk, hx, hg⟩, hT⟩, by show os.length - (i + 1) < os.length - i; omega, ⟨rfl, rfl, trivial⟩, ent_tail (treeL g gl K cl ls lm) _ [_, _], rfl⟩
        repeat (focus (refine ⟨fun h => ?_, fun h => ?_⟩; (first | (focus (exfalso; (first | (with_reducible (cases h; done)) | exact absurd (of_decide_eq_true h) (by assumption) | exact absurd (by assumption) (of_decide_eq_false h)))) | (rotate_left 1; focus (exfalso; (first | (with_reducible (cases h; done)) | exact absurd (of_decide_eq_true h) (by assumption) | exact absurd (by assumption) (of_decide_eq_false h)))) | (focus (exfalso; (simp only [decide_eq_true_eq, decide_eq_false_iff_not, Bool.not_eq_true', Bool.not_eq_false', Bool.not_eq_eq_eq_not, Bool.not_true, Bool.not_false, not_true_eq_false, not_false_eq_true, Int.not_lt, Int.not_le] at h <;> omega))) | (rotate_left 1; focus (exfalso; (simp only [decide_eq_true_eq, decide_eq_false_iff_not, Bool.not_eq_true', Bool.not_eq_false', Bool.not_eq_eq_eq_not, Bool.not_true, Bool.not_false, not_true_eq_false, not_false_eq_true, Int.not_lt, Int.not_le] at h <;> omega))) | (focus (exfalso; (revert h; simp; done))) | (rotate_left 1; focus (exfalso; (revert h; simp; done)))); clear h))
        refine ⟨_, ld 8 rfl rfl, ?_⟩
        by_cases n1 : (k : Int) < x.n
        · repeat (focus (refine ⟨fun h => ?_, fun h => ?_⟩; (first | (focus (exfalso; (first | (with_reducible (cases h; done)) | exact absurd (of_decide_eq_true h) (by assumption) | exact absurd (by assumption) (of_decide_eq_false h)))) | (rotate_left 1; focus (exfalso; (first | (with_reducible (cases h; done)) | exact absurd (of_decide_eq_true h) (by assumption) | exact absurd (by assumption) (of_decide_eq_false h)))) | (focus (exfalso; (simp only [decide_eq_true_eq, decide_eq_false_iff_not, Bool.not_eq_true', Bool.not_eq_false', Bool.not_eq_eq_eq_not, Bool.not_true, Bool.not_false, not_true_eq_false, not_false_eq_true, Int.not_lt, Int.not_le] at h <;> omega))) | (rotate_left 1; focus (exfalso; (simp only [decide_eq_true_eq, decide_eq_false_iff_not, Bool.not_eq_true', Bool.not_eq_false', Bool.not_eq_eq_eq_not, Bool.not_true, Bool.not_false, not_true_eq_false, not_false_eq_true, Int.not_lt, Int.not_le] at h <;> omega))) | (focus (exfalso; (revert h; simp; done))) | (rotate_left 1; focus (exfalso; (revert h; simp; done)))); clear h))
          (intro z hz; obtain rfl : z = ((i + 1 : Nat) : Int) := (by first | (rw [IntKind.wrap_i64] at hz; omega) | (rw [IntKind.wrap_u64] at hz; omega) | omega); clear hz)
          exact ⟨rfl, (i + 1, l, A, k, cap, xs, gl, K, cl, ls, lm), ⟨⟨hil, by show l.length ≤ i + 1; omega, hls⟩, ⟨hk, hx, hg⟩, hT⟩, by show os.length - (i + 1) < os.length - i; omega, ⟨rfl, rfl, trivial⟩, ent_tail (treeL g gl K cl ls lm) _ [_, _], rfl⟩
        repeat (focus (refine ⟨fun h => ?_, fun h => ?_⟩; (first | (focus (exfalso; (first | (with_reducible (cases h; done)) | exact absurd (of_decide_eq_true h) (by assumption) | exact absurd (by assumption) (of_decide_eq_false h)))) | (rotate_left 1; focus (exfalso; (first | (with_reducible (cases h; done)) | exact absurd (of_decide_eq_true h) (by assumption) | exact absurd (by assumption) (of_decide_eq_false h)))) | (focus (exfalso; (simp only [decide_eq_true_eq, decide_eq_false_iff_not, Bool.not_eq_true', Bool.not_eq_false', Bool.not_eq_eq_eq_not, Bool.not_true, Bool.not_false, not_true_eq_false, not_false_eq_true, Int.not_lt, Int.not_le] at h <;> omega))) | (rotate_left 1; focus (exfalso; (simp only [decide_eq_true_eq, decide_eq_false_iff_not, Bool.not_eq_true', Bool.not_eq_false', Bool.not_eq_eq_eq_not, Bool.not_true, Bool.not_false, not_true_eq_false, not_false_eq_true, Int.not_lt, Int.not_le] at h <;> omega))) | (focus (exfalso; (revert h; simp; done))) | (rotate_left 1; focus (exfalso; (revert h; simp; done)))); clear h))
        refine ⟨_, ld 8 rfl rfl, ?_⟩
        by_cases n2 : x.m < 0
        · repeat (focus (refine ⟨fun h => ?_, fun h => ?_⟩; (first | (focus (exfalso; (first | (with_reducible (cases h; done)) | exact absurd (of_decide_eq_true h) (by assumption) | exact absurd (by assumption) (of_decide_eq_false h)))) | (rotate_left 1; focus (exfalso; (first | (with_reducible (cases h; done)) | exact absurd (of_decide_eq_true h) (by assumption) | exact absurd (by assumption) (of_decide_eq_false h)))) | (focus (exfalso; (simp only [decide_eq_true_eq, decide_eq_false_iff_not, Bool.not_eq_true', Bool.not_eq_false', Bool.not_eq_eq_eq_not, Bool.not_true, Bool.not_false, not_true_eq_false, not_false_eq_true, Int.not_lt, Int.not_le] at h <;> omega))) | (rotate_left 1; focus (exfalso; (simp only [decide_eq_true_eq, decide_eq_false_iff_not, Bool.not_eq_true', Bool.not_eq_false', Bool.not_eq_eq_eq_not, Bool.not_true, Bool.not_false, not_true_eq_false, not_false_eq_true, Int.not_lt, Int.not_le] at h <;> omega))) | (focus (exfalso; (revert h; simp; done))) | (rotate_left 1; focus (exfalso; (revert h; simp; done)))); clear h))
          (intro z hz; obtain rfl : z = ((i + 1 : Nat) : Int) := (by first | (rw [IntKind.wrap_i64] at hz; omega) | (rw [IntKind.wrap_u64] at hz; omega) | omega); clear hz)
          exact ⟨rfl, (i + 1, l, A, k, cap, xs, gl, K, cl, ls, lm), ⟨⟨hil, by show l.length ≤ i + 1; omega, hls⟩, ⟨hk, hx, hg⟩, hT⟩, by show os.length - (i + 1) < os.length - i; omega, ⟨rfl, rfl, trivial⟩, ent_tail (treeL g gl K cl ls lm) _ [_, _], rfl⟩
        have n3 : x.n ≤ x.m := by omega
        repeat (focus (refine ⟨fun h => ?_, fun h => ?_⟩; (first | (focus (exfalso; (first | (with_reducible (cases h; done)) | exact absurd (of_decide_eq_true h) (by assumption) | exact absurd (by assumption) (of_decide_eq_false h)))) | (rotate_left 1; focus (exfalso; (first | (with_reducible (cases h; done)) | exact absurd (of_decide_eq_true h) (by assumption) | exact absurd (by assumption) (of_decide_eq_false h)))) | (focus (exfalso; (simp only [decide_eq_true_eq, decide_eq_false_iff_not, Bool.not_eq_true', Bool.not_eq_false', Bool.not_eq_eq_eq_not, Bool.not_true, Bool.not_false, not_true_eq_false, not_false_eq_true, Int.not_lt, Int.not_le] at h <;> omega))) | (rotate_left 1; focus (exfalso; (simp only [decide_eq_true_eq, decide_eq_false_iff_not, Bool.not_eq_true', Bool.not_eq_false', Bool.not_eq_eq_eq_not, Bool.not_true, Bool.not_false, not_true_eq_false, not_false_eq_true, Int.not_lt, Int.not_le] at h <;> omega))) | (focus (exfalso; (revert h; simp; done))) | (rotate_left 1; focus (exfalso; (revert h; simp; done)))); clear h))
        refine ⟨_, ld 8 rfl rfl, ?_⟩
        repeat (focus (refine ⟨fun h => ?_, fun h => ?_⟩; (first | (focus (exfalso; (first | (with_reducible (cases h; done)) | exact absurd (of_decide_eq_true h) (by assumption) | exact absurd (by assumption) (of_decide_eq_false h)))) | (rotate_left 1; focus (exfalso; (first | (with_reducible (cases h; done)) | exact absurd (of_decide_eq_true h) (by assumption) | exact absurd (by assumption) (of_decide_eq_false h)))) | (focus (exfalso; (simp only [decide_eq_true_eq, decide_eq_false_iff_not, Bool.not_eq_true', Bool.not_eq_false', Bool.not_eq_eq_eq_not, Bool.not_true, Bool.not_false, not_true_eq_false, not_false_eq_true, Int.not_lt, Int.not_le] at h <;> omega))) | (rotate_left 1; focus (exfalso; (simp only [decide_eq_true_eq, decide_eq_false_iff_not, Bool.not_eq_true', Bool.not_eq_false', Bool.not_eq_eq_eq_not, Bool.not_true, Bool.not_false, not_true_eq_false, not_false_eq_true, Int.not_lt, Int.not_le] at h <;> omega))) | (focus (exfalso; (revert h; simp; done))) | (rotate_left 1; focus (exfalso; (revert h; simp; done)))); clear h))
        refine ⟨_, ld 8 rfl rfl, ?_⟩
        repeat (focus (refine ⟨fun h => ?_, fun h => ?_⟩; (first | (focus (exfalso; (first | (with_reducible (cases h; done)) | exact absurd (of_decide_eq_true h) (by assumption) | exact absurd (by assumption) (of_decide_eq_false h)))) | (rotate_left 1; focus (exfalso; (first | (with_reducible (cases h; done)) | exact absurd (of_decide_eq_true h) (by assumption) | exact absurd (by assumption) (of_decide_eq_false h)))) | (focus (exfalso; (simp only [decide_eq_true_eq, decide_eq_false_iff_not, Bool.not_eq_true', Bool.not_eq_false', Bool.not_eq_eq_eq_not, Bool.not_true, Bool.not_false, not_true_eq_false, not_false_eq_true, Int.not_lt, Int.not_le] at h <;> omega))) | (rotate_left 1; focus (exfalso; (simp only [decide_eq_true_eq, decide_eq_false_iff_not, Bool.not_eq_true', Bool.not_eq_false', Bool.not_eq_eq_eq_not, Bool.not_true, Bool.not_false, not_true_eq_false, not_false_eq_true, Int.not_lt, Int.not_le] at h <;> omega))) | (focus (exfalso; (revert h; simp; done))) | (rotate_left 1; focus (exfalso; (revert h; simp; done)))); clear h))
        (intro z hz; obtain rfl : z = ((i + 1 : Nat) : Int) := (by first | (rw [IntKind.wrap_i64] at hz; omega) | (rw [IntKind.wrap_u64] at hz; omega) | omega); clear hz)
        exact ⟨rfl, (i + 1, l, A, k, cap, xs, gl, K, cl, ls, lm), ⟨⟨hil, by show l.length ≤ i + 1; omega, hls⟩, ⟨hk, hx, hg⟩, hT⟩, by show os.length - (i + 1) < os.length - i; omega, ⟨rfl, rfl, trivial⟩, ent_tail (treeL g gl K cl ls lm) _ [_, _], rfl⟩
    by_cases k4 : x.k = 4
    · repeat (focus (refine ⟨fun h => ?_, fun h => ?_⟩; (first | (focus (exfalso; (first | (with_reducible (cases h; done)) | exact absurd (of_decide_eq_true h) (by assumption) | exact absurd (by assumption) (of_decide_eq_false h)))) | (rotate_left 1; focus (exfalso; (first | (with_reducible (cases h; done)) | exact absurd (of_decide_eq_true h) (by assumption) | exact absurd (by assumption) (of_decide_eq_false h)))) | (focus (exfalso; (simp only [decide_eq_true_eq, decide_eq_false_iff_not, Bool.not_eq_true', Bool.not_eq_false', Bool.not_eq_eq_eq_not, Bool.not_true, Bool.not_false, not_true_eq_false, not_false_eq_true, Int.not_lt, Int.not_le] at h <;> omega))) | (rotate_left 1; focus (exfalso; (simp only [decide_eq_true_eq, decide_eq_false_iff_not, Bool.not_eq_true', Bool.not_eq_false', Bool.not_eq_eq_eq_not, Bool.not_true, Bool.not_false, not_true_eq_false, not_false_eq_true, Int.not_lt, Int.not_le] at h <;> omega))) | (focus (exfalso; (revert h; simp; done))) | (rotate_left 1; focus (exfalso; (revert h; simp; done)))); clear h))
      refine ⟨_, ld 8 rfl rfl, ?_⟩
      refine ⟨_, ld 8 rfl rfl, ?_⟩
      refine ⟨[7], _, fn_rowc 0 rfl (callable Tryd.func48 rfl (by kernel_rfl)) fun hcap _ => Fn.frame (h := []) (k := [_]) (TConsistency_ok _ ((hG.rh _).rh _) g l ((tree_readS (R := R) hT).mono fun a v hv => .inl (hv.imp id fun ⟨y, hy, hc⟩ => ⟨y, List.mem_append_left _ hy, hc⟩)) hsl (by omega) x.m x.n), ?_⟩
      rintro _ _ ⟨hcap, _, rfl, A1, k1', cap1, xs1, rfl, hg1, hc1⟩
      subst hx hk
      have hpl : (consOf l x.m.toNat x.n.toNat).length ≤ x.n.toNat + 1 ∨ l.length < x.n.toNat := by
        by_cases hb : x.n.toNat ≤ l.length
        · exact .inl (consOf_len hb)
        · exact .inr (by omega)
      rcases hc1 with ⟨hn, rfl, rfl, rfl⟩ | ⟨b1, b2, b3, rfl, rfl, rfl⟩
      · refine ⟨_, ld 7 rfl rfl, ?_⟩
        refine ⟨_, ld 7 rfl rfl, ?_⟩
        have hss := Ss.own (R := R) (h := treeL g gl K cl ls lm ++ [.blk g6 62 x.cells, .row A l.length cap 9 1 (SV l) (0, 0), .row A1 0 cap1 9 1 [] (0, 0)]) 8 rfl rfl hg hcap
        refine ⟨[], _, refConsistency_ok _ l x.m x.n _ hsl hss, ?_⟩
        rintro _ _ ⟨A2, k2', cap2, xs2, rfl, hg2, hc2⟩
        rcases hc2 with ⟨_, rfl, rfl, rfl⟩ | ⟨b1, b2, b3, _⟩
        case inr => exact absurd ⟨b1, b2, b3⟩ hn
        repeat (focus (refine ⟨fun h => ?_, fun h => ?_⟩; (first | (focus (exfalso; (first | (with_reducible (cases h; done)) | exact absurd (of_decide_eq_true h) (by assumption) | exact absurd (by assumption) (of_decide_eq_false h)))) | (rotate_left 1; focus (exfalso; (first | (with_reducible (cases h; done)) | exact absurd (of_decide_eq_true h) (by assumption) | exact absurd (by assumption) (of_decide_eq_false h)))) | (focus (exfalso; (simp only [decide_eq_true_eq, decide_eq_false_iff_not, Bool.not_eq_true', Bool.not_eq_false', Bool.not_eq_eq_eq_not, Bool.not_true, Bool.not_false, not_true_eq_false, not_false_eq_true, Int.not_lt, Int.not_le] at h <;> omega))) | (rotate_left 1; focus (exfalso; (simp only [decide_eq_true_eq, decide_eq_false_iff_not, Bool.not_eq_true', Bool.not_eq_false', Bool.not_eq_eq_eq_not, Bool.not_true, Bool.not_false, not_true_eq_false, not_false_eq_true, Int.not_lt, Int.not_le] at h <;> omega))) | (focus (exfalso; (revert h; simp; done))) | (rotate_left 1; focus (exfalso; (revert h; simp; done)))); clear h))
        refine ⟨[], _, same_ok _ [] [] _ _ (by show 0 ≤ _; omega) (SlR.own 9 rfl rfl hg1) (SlR.own 10 rfl rfl hg2), ?_⟩
        rintro _ _ ⟨rfl, rfl⟩
        repeat (focus (refine ⟨fun h => ?_, fun h => ?_⟩; (first | (focus (exfalso; (first | (with_reducible (cases h; done)) | exact absurd (of_decide_eq_true h) (by assumption) | exact absurd (by assumption) (of_decide_eq_false h)))) | (rotate_left 1; focus (exfalso; (first | (with_reducible (cases h; done)) | exact absurd (of_decide_eq_true h) (by assumption) | exact absurd (by assumption) (of_decide_eq_false h)))) | (focus (exfalso; (simp only [decide_eq_true_eq, decide_eq_false_iff_not, Bool.not_eq_true', Bool.not_eq_false', Bool.not_eq_eq_eq_not, Bool.not_true, Bool.not_false, not_true_eq_false, not_false_eq_true, Int.not_lt, Int.not_le] at h <;> omega))) | (rotate_left 1; focus (exfalso; (simp only [decide_eq_true_eq, decide_eq_false_iff_not, Bool.not_eq_true', Bool.not_eq_false', Bool.not_eq_eq_eq_not, Bool.not_true, Bool.not_false, not_true_eq_false, not_false_eq_true, Int.not_lt, Int.not_le] at h <;> omega))) | (focus (exfalso; (revert h; simp; done))) | (rotate_left 1; focus (exfalso; (revert h; simp; done)))); clear h))
        (intro z hz; obtain rfl : z = ((i + 1 : Nat) : Int) := (by first | (rw [IntKind.wrap_i64] at hz; omega) | (rw [IntKind.wrap_u64] at hz; omega) | omega); clear hz)
        exact ⟨rfl, (i + 1, l, A, _, cap, _, gl, K, cl, ls, lm), ⟨⟨hil, by show l.length ≤ i + 1; omega, hls⟩, ⟨rfl, rfl, hg⟩, hT⟩, by show os.length - (i + 1) < os.length - i; omega, ⟨rfl, rfl, trivial⟩, ent_mid (treeL g gl K cl ls lm) _ _ [_, _], rfl⟩
      · refine ⟨_, ld 7 rfl rfl, ?_⟩
        refine ⟨_, ld 7 rfl rfl, ?_⟩
        have hss := Ss.own (R := R) (h := treeL g gl K cl ls lm ++ [.blk g6 62 x.cells, .row A l.length cap 9 1 (SV l) (0, 0), .row A1 (consOf l x.m.toNat x.n.toNat).length cap1 9 1 (SV (consOf l x.m.toNat x.n.toNat)) (0, 0)]) 8 rfl rfl hg hcap
        refine ⟨[], _, refConsistency_ok _ l x.m x.n _ hsl hss, ?_⟩
        rintro _ _ ⟨A2, k2', cap2, xs2, rfl, hg2, hc2⟩
        rcases hc2 with ⟨hn, _⟩ | ⟨_, _, _, rfl, rfl, rfl⟩
        · exact absurd ⟨b1, b2, b3⟩ hn
        have hpl2 : (consOf l x.m.toNat x.n.toNat).length ≤ 9223372036854775807 := by omega
        generalize consOf l x.m.toNat x.n.toNat = q at *
        repeat (focus (refine ⟨fun h => ?_, fun h => ?_⟩; (first | (focus (exfalso; (first | (with_reducible (cases h; done)) | exact absurd (of_decide_eq_true h) (by assumption) | exact absurd (by assumption) (of_decide_eq_false h)))) | (rotate_left 1; focus (exfalso; (first | (with_reducible (cases h; done)) | exact absurd (of_decide_eq_true h) (by assumption) | exact absurd (by assumption) (of_decide_eq_false h)))) | (focus (exfalso; (simp only [decide_eq_true_eq, decide_eq_false_iff_not, Bool.not_eq_true', Bool.not_eq_false', Bool.not_eq_eq_eq_not, Bool.not_true, Bool.not_false, not_true_eq_false, not_false_eq_true, Int.not_lt, Int.not_le] at h <;> omega))) | (rotate_left 1; focus (exfalso; (simp only [decide_eq_true_eq, decide_eq_false_iff_not, Bool.not_eq_true', Bool.not_eq_false', Bool.not_eq_eq_eq_not, Bool.not_true, Bool.not_false, not_true_eq_false, not_false_eq_true, Int.not_lt, Int.not_le] at h <;> omega))) | (focus (exfalso; (revert h; simp; done))) | (rotate_left 1; focus (exfalso; (revert h; simp; done)))); clear h))
        refine ⟨[], _, same_ok _ q q _ _ (by omega) (SlR.own 9 rfl (by rw [SV_length, Nat.mul_one]) hg1) (SlR.own 10 rfl (by rw [SV_length, Nat.mul_one]) hg2), ?_⟩
        rintro _ _ ⟨rfl, rfl⟩
        rw [decide_eq_true (rfl : q = q)]
        repeat (focus (refine ⟨fun h => ?_, fun h => ?_⟩; (first | (focus (exfalso; (first | (with_reducible (cases h; done)) | exact absurd (of_decide_eq_true h) (by assumption) | exact absurd (by assumption) (of_decide_eq_false h)))) | (rotate_left 1; focus (exfalso; (first | (with_reducible (cases h; done)) | exact absurd (of_decide_eq_true h) (by assumption) | exact absurd (by assumption) (of_decide_eq_false h)))) | (focus (exfalso; (simp only [decide_eq_true_eq, decide_eq_false_iff_not, Bool.not_eq_true', Bool.not_eq_false', Bool.not_eq_eq_eq_not, Bool.not_true, Bool.not_false, not_true_eq_false, not_false_eq_true, Int.not_lt, Int.not_le] at h <;> omega))) | (rotate_left 1; focus (exfalso; (simp only [decide_eq_true_eq, decide_eq_false_iff_not, Bool.not_eq_true', Bool.not_eq_false', Bool.not_eq_eq_eq_not, Bool.not_true, Bool.not_false, not_true_eq_false, not_false_eq_true, Int.not_lt, Int.not_le] at h <;> omega))) | (focus (exfalso; (revert h; simp; done))) | (rotate_left 1; focus (exfalso; (revert h; simp; done)))); clear h))
        (intro z hz; obtain rfl : z = ((i + 1 : Nat) : Int) := (by first | (rw [IntKind.wrap_i64] at hz; omega) | (rw [IntKind.wrap_u64] at hz; omega) | omega); clear hz)
        exact ⟨rfl, (i + 1, l, A, _, cap, _, gl, K, cl, ls, lm), ⟨⟨hil, by show l.length ≤ i + 1; omega, hls⟩, ⟨rfl, rfl, hg⟩, hT⟩, by show os.length - (i + 1) < os.length - i; omega, ⟨rfl, rfl, trivial⟩, ent_mid (treeL g gl K cl ls lm) _ _ [_, _], rfl⟩
    repeat (focus (refine ⟨fun h => ?_, fun h => ?_⟩; (first | (focus (exfalso; (first | (with_reducible (cases h; done)) | exact absurd (of_decide_eq_true h) (by assumption) | exact absurd (by assumption) (of_decide_eq_false h)))) | (rotate_left 1; focus (exfalso; (first | (with_reducible (cases h; done)) | exact absurd (of_decide_eq_true h) (by assumption) | exact absurd (by assumption) (of_decide_eq_false h)))) | (focus (exfalso; (simp only [decide_eq_true_eq, decide_eq_false_iff_not, Bool.not_eq_true', Bool.not_eq_false', Bool.not_eq_eq_eq_not, Bool.not_true, Bool.not_false, not_true_eq_false, not_false_eq_true, Int.not_lt, Int.not_le] at h <;> omega))) | (rotate_left 1; focus (exfalso; (simp only [decide_eq_true_eq, decide_eq_false_iff_not, Bool.not_eq_true', Bool.not_eq_false', Bool.not_eq_eq_eq_not, Bool.not_true, Bool.not_false, not_true_eq_false, not_false_eq_true, Int.not_lt, Int.not_le] at h <;> omega))) | (focus (exfalso; (revert h; simp; done))) | (rotate_left 1; focus (exfalso; (revert h; simp; done)))); clear h))
    refine ⟨[], _, TLen_ok _ g l ((tree_readS (R := R) hT).mono fun a v hv => hv.imp id fun ⟨y, hy, hc⟩ => ⟨y, List.mem_append_left _ hy, hc⟩), ?_⟩
    rintro _ _ ⟨rfl, rfl⟩
    repeat (focus (refine ⟨fun h => ?_, fun h => ?_⟩; (first | (focus (exfalso; (first | (with_reducible (cases h; done)) | exact absurd (of_decide_eq_true h) (by assumption) | exact absurd (by assumption) (of_decide_eq_false h)))) | (rotate_left 1; focus (exfalso; (first | (with_reducible (cases h; done)) | exact absurd (of_decide_eq_true h) (by assumption) | exact absurd (by assumption) (of_decide_eq_false h)))) | (focus (exfalso; (simp only [decide_eq_true_eq, decide_eq_false_iff_not, Bool.not_eq_true', Bool.not_eq_false', Bool.not_eq_eq_eq_not, Bool.not_true, Bool.not_false, not_true_eq_false, not_false_eq_true, Int.not_lt, Int.not_le] at h <;> omega))) | (rotate_left 1; focus (exfalso; (simp only [decide_eq_true_eq, decide_eq_false_iff_not, Bool.not_eq_true', Bool.not_eq_false', Bool.not_eq_eq_eq_not, Bool.not_true, Bool.not_false, not_true_eq_false, not_false_eq_true, Int.not_lt, Int.not_le] at h <;> omega))) | (focus (exfalso; (revert h; simp; done))) | (rotate_left 1; focus (exfalso; (revert h; simp; done)))); clear h))
    (intro z hz; obtain rfl : z = ((i + 1 : Nat) : Int) := (by first | (rw [IntKind.wrap_i64] at hz; omega) | (rw [IntKind.wrap_u64] at hz; omega) | omega); clear hz)
    exact ⟨rfl, (i + 1, l, A, k, cap, xs, gl, K, cl, ls, lm), ⟨⟨hil, by show l.length ≤ i + 1; omega, hls⟩, ⟨hk, hx, hg⟩, hT⟩, by show os.length - (i + 1) < os.length - i; omega, ⟨rfl, rfl, trivial⟩, ent_tail (treeL g gl K cl ls lm) _ [_], rfl⟩
  · replace hb := of_decide_eq_false hb
    clear hb
    refine ⟨[], _, TLen_ok _ g l ((tree_readS (R := R) hT).mono fun a v hv => hv.imp id fun ⟨y, hy, hc⟩ => ⟨y, List.mem_append_left _ hy, hc⟩), ?_⟩
    rintro _ _ ⟨rfl, rfl⟩
    refine ⟨_, Ent.nil _, ?_⟩
    rw [hk]
    show Value.bool (decide _) = _
    rw [decide_eq_true rfl]

end Go.Proofs.YtgbdfpfiolbhlaaDoor
