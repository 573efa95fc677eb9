/-
  Top: contracts of seal.Class; refs and their checks.
-/
import Derived.Test.YtgnmbgbiajgpeaaDoorTof
import Derived.Test.YtgnmbgbiajgpeaaDoorW2
import Derived.Test.YtgnmbgbiajgpeaaDoorW3
namespace Go.Proofs.YtgnmbgbiajgpeaaDoor
open Go Go.RowKit
set_option linter.unusedVariables false
set_option linter.unusedSimpArgs false

/-! ### size classes -/
def clsAt (k : Nat) : Nat := 2 ^ (k / 4) * (64 + 16 * (k % 4))
def clsG : Nat → Nat → Nat → Nat
  | 0, k, _ => clsAt k
  | f + 1, k, need => if clsAt k < need then clsG f (k + 1) need else clsAt k
def clsF (n : Nat) : Nat := clsG 44 0 (usize n + n + 16)
def clsV (n : Int) : Nat × Int := if n < 0 then (0, 1) else if 32768 < n then (0, 2) else (clsF n.toNat, 0)
theorem clsAt_44 : ∀ k, k ≤ 44 → clsAt k < 40000 → k < 37 := by
  intro k hk
  have : ∀ k : Fin 45, clsAt k.val < 40000 → k.val < 37 := by decide +kernel
  exact this ⟨k, by omega⟩
theorem clsAt_le : ∀ k, k ≤ 37 → 64 ≤ clsAt k ∧ clsAt k ≤ 40960 := by
  intro k hk
  have : ∀ k : Fin 38, 64 ≤ clsAt k.val ∧ clsAt k.val ≤ 40960 := by decide +kernel
  exact this ⟨k, by omega⟩
theorem clsG_spec : ∀ (f k need : Nat), need ≤ 40000 → k ≤ 37 → 37 ≤ f + k → need ≤ clsG f k need ∧ 64 ≤ clsG f k need ∧ clsG f k need ≤ 40960
  | 0, k, need, hn, hk, hf => by
    obtain rfl : k = 37 := by omega
    have e : clsG 0 37 need = 40960 := by show clsAt 37 = _; decide
    rw [e]; omega
  | f + 1, k, need, hn, hk, hf => by
    rw [clsG]
    have := clsAt_le k hk
    by_cases c : clsAt k < need
    · rw [if_pos c]
      have h2 := clsAt_44 k (by omega) (by omega)
      exact clsG_spec f (k + 1) need hn (by omega) (by omega)
    · rw [if_neg c]; omega
theorem usize_le3 {n : Nat} (h : n ≤ 32768) : usize n ≤ 3 := usize_le 2 n (by omega)
theorem clsF_spec {n : Nat} (h : n ≤ 32768) : usize n + n + 16 ≤ clsF n ∧ 64 ≤ clsF n ∧ clsF n ≤ 40960 :=
  clsG_spec 44 0 _ (by have := usize_le3 h; omega) (by omega) (by omega)
theorem clsV_in {n : Int} (h0 : 0 ≤ n) (h1 : n ≤ 32768) : clsV n = (clsF n.toNat, 0) := by
  unfold clsV; rw [if_neg (by omega), if_neg (by omega)]
theorem clsV_small {n : Nat} (h : n ≤ 40) : clsF n = 64 := by
  have hu : usize n = 1 := usize_small (by omega)
  unfold clsF
  rw [hu]
  show clsG (43 + 1) 0 (1 + n + 16) = 64
  rw [clsG, if_neg (by show ¬ 64 < 1 + n + 16; omega)]
  rfl
theorem pow_step {k : Nat} : (k + 1) % 4 = (if k % 4 = 3 then 0 else k % 4 + 1) ∧ 2 ^ ((k + 1) / 4) = (if k % 4 = 3 then 2 * 2 ^ (k / 4) else 2 ^ (k / 4)) := by
  by_cases c : k % 4 = 3
  · rw [if_pos c, if_pos c, show (k + 1) / 4 = k / 4 + 1 by omega, Nat.pow_succ]
    exact ⟨by omega, Nat.mul_comm _ _⟩
  · rw [if_neg c, if_neg c, show (k + 1) / 4 = k / 4 by omega]
    exact ⟨by omega, rfl⟩
def clsH (g1 g2 k : Nat) : Hp := [.blk g1 3 [.int .i64 ((2 ^ (k / 4) : Nat) : Int)], .blk g2 3 [.int .i64 ((k % 4 : Nat) : Int)]]
set_option maxRecDepth 100000 in
theorem classes1_ok (R : Rd) (g1 g2 k : Nat) (hk : k ≤ 60) : Fn Tryd.prog 63 [.pointer (some ⟨g1, 0, .none⟩), .pointer (some ⟨g2, 0, .none⟩)] (clsH g1 g2 k) R (fun v h => v = .int .i64 (clsAt k : Nat) ∧ h = clsH g1 g2 (k + 1)) := by
  have hp : 2 ^ (k / 4) ≤ 2 ^ 15 := Nat.pow_le_pow_right (by omega) (by omega)
  have hs := pow_step (k := k)
  unfold clsH clsAt
  rw [hs.1, hs.2]
  have hb : k % 4 < 4 := Nat.mod_lt _ (by omega)
  generalize 2 ^ (k / 4) = a at hp hs ⊢
  generalize k % 4 = b at hb hs ⊢
  clear hs
  have hp : a ≤ 32768 := hp
  have hab : a * (64 + 16 * b) ≤ 32768 * 112 := Nat.mul_le_mul hp (by omega)
  refine fn_of_vc mixed tabOk Tryd.func63 rfl (by kernel_rfl) (Nat.le_of_ble_eq_true rfl) ?_
  refine ⟨_, ld 0 rfl rfl, ?_⟩
  refine ⟨_, ld 1 rfl rfl, ?_⟩
  (intro z hz; obtain rfl : z = ((16 * b : Nat) : Int) := (by first | (rw [IntKind.wrap_i64] at hz; omega) | (rw [IntKind.wrap_u64] at hz; omega) | omega); clear hz)
  (intro z hz; obtain rfl : z = ((64 + 16 * b : Nat) : Int) := (by first | (rw [IntKind.wrap_i64] at hz; omega) | (rw [IntKind.wrap_u64] at hz; omega) | omega); clear hz)
  intro z hz
  obtain rfl := mul_nat (a := a) (b := 64 + 16 * b) (by omega) hz
  clear hz
  refine ⟨_, ld 1 rfl rfl, ?_⟩
  (intro z hz; obtain rfl : z = ((b + 1 : Nat) : Int) := (by first | (rw [IntKind.wrap_i64] at hz; omega) | (rw [IntKind.wrap_u64] at hz; omega) | omega); clear hz)
  refine ⟨rfl, rfl, 1, rfl, rfl, Nat.le_of_ble_eq_true rfl, ?_⟩
  refine ⟨_, ld 1 rfl rfl, ?_⟩
  by_cases c : b = 3
  · rw [if_pos c, if_pos c]
    repeat (first | (refine ⟨fun h => ?_, fun h => ?_⟩; rotate_left 1; (focus (exfalso; (first | (with_reducible (cases h; done)) | (revert h; simp; done) | (revert h; simp; omega) | (revert h; simp [*]; done)))); clear h) | (refine ⟨fun h => ?_, fun h => ?_⟩; (focus (exfalso; (first | (with_reducible (cases h; done)) | (revert h; simp; done) | (revert h; simp; omega) | (revert h; simp [*]; done)))); clear h))
    refine ⟨_, ld 0 rfl rfl, ?_⟩
    (intro z hz; obtain rfl : z = ((2 * a : Nat) : Int) := (by first | (rw [IntKind.wrap_i64] at hz; omega) | (rw [IntKind.wrap_u64] at hz; omega) | omega); clear hz)
    refine ⟨rfl, rfl, 0, rfl, rfl, Nat.le_of_ble_eq_true rfl, ?_⟩
    refine ⟨rfl, rfl, 1, rfl, rfl, Nat.le_of_ble_eq_true rfl, ?_⟩
    exact ⟨_, Ent.refl _, rfl, rfl⟩
  · rw [if_neg c, if_neg c]
    repeat (first | (refine ⟨fun h => ?_, fun h => ?_⟩; rotate_left 1; (focus (exfalso; (first | (with_reducible (cases h; done)) | (revert h; simp; done) | (revert h; simp; omega) | (revert h; simp [*]; done)))); clear h) | (refine ⟨fun h => ?_, fun h => ?_⟩; (focus (exfalso; (first | (with_reducible (cases h; done)) | (revert h; simp; done) | (revert h; simp; omega) | (revert h; simp [*]; done)))); clear h))
    exact ⟨_, Ent.refl _, rfl, rfl⟩
set_option maxRecDepth 100000 in
theorem Class_ok (R : Rd) (n : Int) (h1 : -9223372036854775808 ≤ n) : Fn Tryd.prog 14 [.int .i64 n] [] R (fun v h => v = .tuple ⟨[.int .i64 ((clsV n).1 : Nat), .int .i64 (clsV n).2]⟩ ∧ h = []) := by
  unfold clsV
  refine fn_of_vc mixed tabOk Tryd.func14 rfl (by kernel_rfl) (Nat.le_of_ble_eq_true rfl) ?_
  by_cases c1 : n < 0
  · rw [if_pos c1]
    repeat (first | (refine ⟨fun h => ?_, fun h => ?_⟩; rotate_left 1; (focus (exfalso; (first | (with_reducible (cases h; done)) | (revert h; simp; done) | (revert h; simp; omega) | (revert h; simp [*]; done)))); clear h) | (refine ⟨fun h => ?_, fun h => ?_⟩; (focus (exfalso; (first | (with_reducible (cases h; done)) | (revert h; simp; done) | (revert h; simp; omega) | (revert h; simp [*]; done)))); clear h))
    exact ⟨_, Ent.refl _, rfl, rfl⟩
  rw [if_neg c1]
  by_cases c2 : 32768 < n
  · rw [if_pos c2]
    repeat (first | (refine ⟨fun h => ?_, fun h => ?_⟩; rotate_left 1; (focus (exfalso; (first | (with_reducible (cases h; done)) | (revert h; simp; done) | (revert h; simp; omega) | (revert h; simp [*]; done)))); clear h) | (refine ⟨fun h => ?_, fun h => ?_⟩; (focus (exfalso; (first | (with_reducible (cases h; done)) | (revert h; simp; done) | (revert h; simp; omega) | (revert h; simp [*]; done)))); clear h))
    exact ⟨_, Ent.refl _, rfl, rfl⟩
  rw [if_neg c2]
  obtain ⟨m, rfl⟩ : ∃ m : Nat, n = m := ⟨n.toNat, by omega⟩
  rw [Int.toNat_natCast]
  have hu := usize_le3 (n := m) (by omega)
  repeat (first | (refine ⟨fun h => ?_, fun h => ?_⟩; rotate_left 1; (focus (exfalso; (first | (with_reducible (cases h; done)) | (revert h; simp; done) | (revert h; simp; omega) | (revert h; simp [*]; done)))); clear h) | (refine ⟨fun h => ?_, fun h => ?_⟩; (focus (exfalso; (first | (with_reducible (cases h; done)) | (revert h; simp; done) | (revert h; simp; omega) | (revert h; simp [*]; done)))); clear h))
  (intro z hz; obtain rfl : z = ((m : Nat) : Int) := (by first | (rw [IntKind.wrap_i64] at hz; omega) | (rw [IntKind.wrap_u64] at hz; omega) | omega); clear hz)
  refine ⟨[], _, UintSize_ok _ m (by omega), ?_⟩
  rintro _ _ ⟨rfl, rfl⟩
  (intro z hz; obtain rfl : z = ((usize m + m : Nat) : Int) := (by first | (rw [IntKind.wrap_i64] at hz; omega) | (rw [IntKind.wrap_u64] at hz; omega) | omega); clear hz)
  (intro z hz; obtain rfl : z = ((usize m + m + 16 : Nat) : Int) := (by first | (rw [IntKind.wrap_i64] at hz; omega) | (rw [IntKind.wrap_u64] at hz; omega) | omega); clear hz)
  unfold clsF
  generalize hneed : usize m + m + 16 = need
  have hn4 : need ≤ 40000 := by omega
  refine ⟨[], _, (show Fn Tryd.prog 39 [] [] _ (fun v h => ∃ g1 g2, v = .func (.func 63) #[] #[.pointer (some ⟨g1, 0, .none⟩), .pointer (some ⟨g2, 0, .none⟩)] ∧ h = clsH g1 g2 0) from ?_), ?_⟩
  · refine fn_of_vc mixed tabOk Tryd.func39 rfl (by kernel_rfl) (Nat.le_of_ble_eq_true rfl) ?_
    intro g1 g2
    refine ⟨rfl, rfl, 0, rfl, rfl, Nat.le_of_ble_eq_true rfl, ?_⟩
    refine ⟨rfl, rfl, 1, rfl, rfl, Nat.le_of_ble_eq_true rfl, ?_⟩
    exact ⟨_, Ent.refl _, g1, g2, rfl, rfl⟩
  rintro _ _ ⟨g1, g2, rfl, rfl⟩
  refine ⟨[0, 0], _, classes1_ok _ g1 g2 0 (by omega), ?_⟩
  rintro _ _ ⟨rfl, rfl⟩
  refine ⟨[none, none, none, none, none, none, some 6, none, none, none, none, none, none, none, none, none, none, none, none, none, some 20, some 21, some 22, some 23, some 24], [6], Nat × Nat, fun ⟨k, f⟩ => k ≤ 37 ∧ f + k = 44 ∧ clsG f k need = clsG 44 0 need, fun ⟨k, _⟩ => [.int .i64 (clsAt k : Nat)], fun ⟨k, _⟩ => clsH g1 g2 (k + 1), fun ⟨_, f⟩ => f, (0, 44), ⟨by omega, rfl, rfl⟩, ⟨rfl, trivial⟩, Ent.refl _, ?_⟩
  rintro ⟨k, f⟩ ⟨hk, hf, he⟩ js
  have hk : k ≤ 37 := hk
  have hf : f + k = 44 := hf
  have he : clsG f k need = clsG 44 0 need := he
  obtain ⟨f, rfl⟩ : ∃ q, f = q + 1 := ⟨f - 1, by omega⟩
  rw [clsG] at he
  have hcl := clsAt_le k hk
  by_cases c : clsAt k < need
  · rw [if_pos c] at he
    have hk2 := clsAt_44 k (by omega) (by omega)
    repeat (first | (refine ⟨fun h => ?_, fun h => ?_⟩; rotate_left 1; (focus (exfalso; (first | (with_reducible (cases h; done)) | (revert h; simp; done) | (revert h; simp; omega) | (revert h; simp [*]; done)))); clear h) | (refine ⟨fun h => ?_, fun h => ?_⟩; (focus (exfalso; (first | (with_reducible (cases h; done)) | (revert h; simp; done) | (revert h; simp; omega) | (revert h; simp [*]; done)))); clear h))
    refine ⟨[0, 0], _, classes1_ok _ g1 g2 (k + 1) (by omega), ?_⟩
    rintro _ _ ⟨rfl, rfl⟩
    exact ⟨rfl, (k + 1, f), ⟨by show k + 1 ≤ 37; omega, by show f + (k + 1) = 44; omega, he⟩, by show f < f + 1; omega, ⟨rfl, trivial⟩, Ent.refl _, rfl⟩
  · rw [if_neg c] at he
    repeat (first | (refine ⟨fun h => ?_, fun h => ?_⟩; rotate_left 1; (focus (exfalso; (first | (with_reducible (cases h; done)) | (revert h; simp; done) | (revert h; simp; omega) | (revert h; simp [*]; done)))); clear h) | (refine ⟨fun h => ?_, fun h => ?_⟩; (focus (exfalso; (first | (with_reducible (cases h; done)) | (revert h; simp; done) | (revert h; simp; omega) | (revert h; simp [*]; done)))); clear h))
    rw [← he]
    exact ⟨_, Ent.nil _, rfl, rfl⟩

/-! ### refs -/
structure RefD where
  nm : Str
  gn : Int
  sz : Int
def RefD.cells (r : RefD) : List Value := [.string ⟨⟨r.nm⟩⟩, .int .i64 r.gn, .int .i64 r.sz]
def refsC (l : List RefD) : List Value := l.flatMap RefD.cells
theorem refsC_length (l : List RefD) : (refsC l).length = l.length * 3 := flat_len fun _ _ => rfl
theorem refsC_one (l : List RefD) : allOne (refsC l) = true := by
  refine allOne_of fun u hu => ?_
  obtain ⟨m, _, hm⟩ := List.mem_flatMap.1 hu
  simp only [RefD.cells, List.mem_cons, List.not_mem_nil, or_false] at hm
  rcases hm with rfl | rfl | rfl <;> rfl
def RefsR (R : Rd) (v : Value) (l : List RefD) : Prop := SlR R 3 v l.length (refsC l)
theorem RefsR.at_ {R : Rd} {A : Option Addr} {n cap : Nat} {l : List RefD} (h : RefsR R (.slice A n cap) l) {i : Nat} {x : RefD} (hx : l[i]? = some x) : ∃ a, A = some a ∧ ∀ j u, x.cells[j]? = some u → R (a.add (i * 3 + j)) u := by
  obtain ⟨_, A', cap', hv, hr⟩ := h
  cases hv
  obtain ⟨a, rfl, _⟩ := hr (i * 3 + 0) _ (flat_at (sz := 3) (c := RefD.cells) (fun _ _ => rfl) hx (j := 0) (u := .string ⟨⟨x.nm⟩⟩) rfl)
  refine ⟨a, rfl, fun j u hu => ?_⟩
  obtain ⟨a', ha, hR⟩ := hr (i * 3 + j) u (flat_at (sz := 3) (c := RefD.cells) (fun _ _ => rfl) hx hu)
  cases ha
  exact hR
structure GoodRefs (l : List RefD) : Prop where
  len : l.length ≤ 1000
  nm : ∀ r ∈ l, r.nm.length = 32
  gn : ∀ r ∈ l, 0 ≤ r.gn
  s0 : ∀ r ∈ l, 0 ≤ r.sz
  s1 : ∀ r ∈ l, r.sz ≤ 32768
  nd : (l.map RefD.nm).Nodup
def entN (l : List RefD) : List MapEntry := (List.range l.length).map fun i => ⟨.string ⟨⟨(l.getD i ⟨[], 0, 0⟩).nm⟩⟩, .bool true, i⟩
theorem findE_none {k : Value} : ∀ (es : List MapEntry) (i : Nat), (∀ e ∈ es, sameKey k e.key = false) → findE k es i = .none
  | [], _, _ => rfl
  | e :: r, i, h => by
    rw [findE, h e (by simp)]
    exact findE_none r (i + 1) fun x hx => h x (by simp [hx])
def entK (l : List RefD) (k : Nat) : List MapEntry := (List.range k).map fun i => ⟨.string ⟨⟨(l.getD i ⟨[], 0, 0⟩).nm⟩⟩, .bool true, i⟩
theorem entK_succ (l : List RefD) (k : Nat) : entK l (k + 1) = entK l k ++ [⟨.string ⟨⟨(l.getD k ⟨[], 0, 0⟩).nm⟩⟩, .bool true, k⟩] := by simp [entK, List.range_succ]
theorem entK_like (l : List RefD) (k : Nat) (s : Str) : ∀ e ∈ entK l k, likeKey (.string ⟨⟨s⟩⟩) e.key = true := fun e he => by
  obtain ⟨i, _, rfl⟩ := List.mem_map.1 he; rfl
theorem getD_of {l : List RefD} {i : Nat} {x : RefD} (h : l[i]? = some x) : l.getD i ⟨[], 0, 0⟩ = x := by rw [List.getD_eq_getElem?_getD, h]; rfl
theorem entK_new {l : List RefD} (hg : GoodRefs l) {k : Nat} {x : RefD} (hx : l[k]? = some x) : findE (.string ⟨⟨x.nm⟩⟩) (entK l k) 0 = .none := findE_none _ _ fun e he => by
  obtain ⟨i, hi, rfl⟩ := List.mem_map.1 he
  have hik := List.mem_range.1 hi
  have hkl := (List.getElem?_eq_some_iff.1 hx).1
  refine decide_eq_false fun h => ?_
  have h : x.nm = (l.getD i ⟨[], 0, 0⟩).nm := h
  have hnd := hg.nd
  obtain ⟨y, hy⟩ : ∃ y, l[i]? = some y := ⟨_, List.getElem?_eq_getElem (by omega)⟩
  rw [getD_of hy] at h
  have h3 := List.pairwise_iff_getElem.1 hnd i k (by rw [List.length_map]; omega) (by rw [List.length_map]; exact hkl) hik
  rw [List.getElem_map, List.getElem_map] at h3
  obtain ⟨_, e1⟩ := List.getElem?_eq_some_iff.1 hy
  obtain ⟨_, e2⟩ := List.getElem?_eq_some_iff.1 hx
  rw [e1, e2] at h3
  exact h3 h.symm
set_option maxRecDepth 100000 in
set_option maxHeartbeats 4000000 in
theorem validRefs_ok (R : Rd) (l : List RefD) (v : Value) (hg : GoodRefs l) (hs : RefsR R v l) : Fn Tryd.prog 30 [v] [] R (fun v h => v = .bool true ∧ h = []) := by
  have hln := hg.len
  have hs' := hs
  obtain ⟨_, A, cap, rfl, _⟩ := hs'
  refine fn_of_vc mixed tabOk Tryd.func30 rfl (by kernel_rfl) (Nat.le_of_ble_eq_true rfl) ?_
  intro gm
  refine ⟨[none, none, some 2, none, none, some 5, none, none, none, none, none, some 11, some 12, some 13, some 14, some 15, some 16, some 17, some 18, some 19, some 20, some 21, some 22, some 23, some 24, some 25, some 26, some 27, some 28, some 29, some 30, some 31, some 32, some 33, some 34, some 35, some 36, some 37, some 38, some 39, some 40, some 41, some 42, some 43], [11], Nat, fun k => k ≤ l.length, fun k => [.int .i64 k], fun k => [.obj gm (.map ⟨entK l k⟩ k)], fun k => l.length - k, 0, Nat.zero_le _, ⟨rfl, trivial⟩, Ent.refl _, ?_⟩
  intro k hk js
  have hk : k ≤ l.length := hk
  by_cases d : k < l.length
  · repeat (first | (refine ⟨fun h => ?_, fun h => ?_⟩; rotate_left 1; (focus (exfalso; (first | (with_reducible (cases h; done)) | (revert h; simp; done) | (revert h; simp; omega) | (revert h; simp [*]; done)))); clear h) | (refine ⟨fun h => ?_, fun h => ?_⟩; (focus (exfalso; (first | (with_reducible (cases h; done)) | (revert h; simp; done) | (revert h; simp; omega) | (revert h; simp [*]; done)))); clear h))
    obtain ⟨x, hx⟩ : ∃ x, l[k]? = some x := ⟨_, List.getElem?_eq_getElem d⟩
    have hxm := List.mem_of_getElem? hx
    have x1 := hg.nm x hxm
    have x2 := hg.gn x hxm
    have x3 := hg.s0 x hxm
    have x4 := hg.s1 x hxm
    obtain ⟨a, rfl, hra⟩ := hs.at_ hx
    have hnew := entK_new hg hx
    refine ⟨by omega, by omega, a, rfl, ?_⟩
    refine ⟨x.cells, fun j u hu => .inl (rdn hra j u hu), rfl, ?_⟩
    intro g5
    refine ⟨rfl, rfl, 1, rfl, rfl, Nat.le_of_ble_eq_true rfl, ?_⟩
    refine ⟨_, ld 1 rfl rfl, ?_⟩
    repeat (first | (refine ⟨fun h => ?_, fun h => ?_⟩; rotate_left 1; (focus (exfalso; (first | (with_reducible (cases h; done)) | (revert h; simp; done) | (revert h; simp; omega) | (revert h; simp [*]; done)))); clear h) | (refine ⟨fun h => ?_, fun h => ?_⟩; (focus (exfalso; (first | (with_reducible (cases h; done)) | (revert h; simp; done) | (revert h; simp; omega) | (revert h; simp [*]; done)))); clear h))
    refine ⟨_, ld 1 rfl rfl, ?_⟩
    repeat (first | (refine ⟨fun h => ?_, fun h => ?_⟩; rotate_left 1; (focus (exfalso; (first | (with_reducible (cases h; done)) | (revert h; simp; done) | (revert h; simp; omega) | (revert h; simp [*]; done)))); clear h) | (refine ⟨fun h => ?_, fun h => ?_⟩; (focus (exfalso; (first | (with_reducible (cases h; done)) | (revert h; simp; done) | (revert h; simp; omega) | (revert h; simp [*]; done)))); clear h))
    refine ⟨_, ld 1 rfl rfl, ?_⟩
    repeat (first | (refine ⟨fun h => ?_, fun h => ?_⟩; rotate_left 1; (focus (exfalso; (first | (with_reducible (cases h; done)) | (revert h; simp; done) | (revert h; simp; omega) | (revert h; simp [*]; done)))); clear h) | (refine ⟨fun h => ?_, fun h => ?_⟩; (focus (exfalso; (first | (with_reducible (cases h; done)) | (revert h; simp; done) | (revert h; simp; omega) | (revert h; simp [*]; done)))); clear h))
    refine ⟨_, ld 1 rfl rfl, ?_⟩
    repeat (first | (refine ⟨fun h => ?_, fun h => ?_⟩; rotate_left 1; (focus (exfalso; (first | (with_reducible (cases h; done)) | (revert h; simp; done) | (revert h; simp; omega) | (revert h; simp [*]; done)))); clear h) | (refine ⟨fun h => ?_, fun h => ?_⟩; (focus (exfalso; (first | (with_reducible (cases h; done)) | (revert h; simp; done) | (revert h; simp; omega) | (revert h; simp [*]; done)))); clear h))
    refine ⟨_, ld 1 rfl rfl, ?_⟩
    repeat (first | (refine ⟨fun h => ?_, fun h => ?_⟩; rotate_left 1; (focus (exfalso; (first | (with_reducible (cases h; done)) | (revert h; simp; done) | (revert h; simp; omega) | (revert h; simp [*]; done)))); clear h) | (refine ⟨fun h => ?_, fun h => ?_⟩; (focus (exfalso; (first | (with_reducible (cases h; done)) | (revert h; simp; done) | (revert h; simp; omega) | (revert h; simp [*]; done)))); clear h))
    refine ⟨0, rfl, entK_like _ _ _, ?_⟩
    rintro vv b (⟨j, hf, _⟩ | ⟨_, rfl, rfl⟩)
    · rw [hnew] at hf; cases hf
    repeat (first | (refine ⟨fun h => ?_, fun h => ?_⟩; rotate_left 1; (focus (exfalso; (first | (with_reducible (cases h; done)) | (revert h; simp; done) | (revert h; simp; omega) | (revert h; simp [*]; done)))); clear h) | (refine ⟨fun h => ?_, fun h => ?_⟩; (focus (exfalso; (first | (with_reducible (cases h; done)) | (revert h; simp; done) | (revert h; simp; omega) | (revert h; simp [*]; done)))); clear h))
    refine ⟨_, ld 1 rfl rfl, ?_⟩
    refine ⟨0, rfl, entK_like _ _ _, ?_⟩
    rintro es' c' (⟨j, w, hf, _⟩ | ⟨_, rfl, rfl⟩)
    · rw [show findE _ (entK l k) 0 = none from hnew] at hf; cases hf
    (intro z hz; obtain rfl : z = ((k + 1 : Nat) : Int) := (by first | (rw [IntKind.wrap_i64] at hz; omega) | (rw [IntKind.wrap_u64] at hz; omega) | omega); clear hz)
    refine ⟨rfl, k + 1, d, by show l.length - (k + 1) < l.length - k; omega, ⟨rfl, trivial⟩, ?_, rfl⟩
    show Ent _ [.obj gm (.map ⟨entK l (k + 1)⟩ (k + 1))]
    rw [entK_succ, getD_of hx]
    exact Ent.pick [0] rfl
  · repeat (first | (refine ⟨fun h => ?_, fun h => ?_⟩; rotate_left 1; (focus (exfalso; (first | (with_reducible (cases h; done)) | (revert h; simp; done) | (revert h; simp; omega) | (revert h; simp [*]; done)))); clear h) | (refine ⟨fun h => ?_, fun h => ?_⟩; (focus (exfalso; (first | (with_reducible (cases h; done)) | (revert h; simp; done) | (revert h; simp; omega) | (revert h; simp [*]; done)))); clear h))
    exact ⟨_, Ent.nil _, rfl, rfl⟩
set_option maxRecDepth 100000 in
theorem hasClass_ok (R : Rd) (x : RefD) (c : Nat) (h1 : -9223372036854775808 ≤ x.sz) : Fn Tryd.prog 31 [.agg ⟨x.cells⟩, .int .i64 c] [] R (fun v h => v = .bool (decide ((clsV x.sz).2 = 0 ∧ (clsV x.sz).1 = c)) ∧ h = []) := by
  refine fn_of_vc mixed tabOk Tryd.func31 rfl (by kernel_rfl) (Nat.le_of_ble_eq_true rfl) ?_
  intro g
  refine ⟨_, ld 0 rfl rfl, ?_⟩
  refine ⟨[], _, Class_ok _ x.sz h1, ?_⟩
  rintro _ _ ⟨rfl, rfl⟩
  generalize clsV x.sz = q
  by_cases c1 : q.2 = 0
  · repeat (first | (refine ⟨fun h => ?_, fun h => ?_⟩; rotate_left 1; (focus (exfalso; (first | (with_reducible (cases h; done)) | (revert h; simp; done) | (revert h; simp; omega) | (revert h; simp [*]; done)))); clear h) | (refine ⟨fun h => ?_, fun h => ?_⟩; (focus (exfalso; (first | (with_reducible (cases h; done)) | (revert h; simp; done) | (revert h; simp; omega) | (revert h; simp [*]; done)))); clear h))
    by_cases c2 : q.1 = c
    · exact ⟨_, Ent.nil _, yes_D (decide_eq_true (by omega)) ⟨c1, c2⟩, rfl⟩
    · exact ⟨_, Ent.nil _, no_D (decide_eq_false (by omega)) (fun h => c2 h.2), rfl⟩
  · repeat (first | (refine ⟨fun h => ?_, fun h => ?_⟩; rotate_left 1; (focus (exfalso; (first | (with_reducible (cases h; done)) | (revert h; simp; done) | (revert h; simp; omega) | (revert h; simp [*]; done)))); clear h) | (refine ⟨fun h => ?_, fun h => ?_⟩; (focus (exfalso; (first | (with_reducible (cases h; done)) | (revert h; simp; done) | (revert h; simp; omega) | (revert h; simp [*]; done)))); clear h))
    exact ⟨_, Ent.nil _, no_D rfl (fun h => c1 h.1), rfl⟩

end Go.Proofs.YtgnmbgbiajgpeaaDoor
