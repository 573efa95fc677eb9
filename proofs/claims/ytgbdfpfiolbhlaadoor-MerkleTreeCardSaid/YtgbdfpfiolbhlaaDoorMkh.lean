/-
  The laws MerkleSums, MerkleRoot, MerklePath, MerkleVerify, MerkleConsistent.
-/
import Derived.Test.YtgbdfpfiolbhlaaDoorMkg
namespace Go.Proofs.YtgbdfpfiolbhlaaDoor
open Go Go.RowKit
set_option linter.unusedVariables false

theorem SeenV.cap {R : Rd} {sz : Nat} {e : Shp} {A : Option Addr} {n cap : Nat} (h : SeenV R (.sl sz e) (.slice A n cap)) : n ≤ cap := by
  obtain ⟨h, _⟩ := h
  rcases h with h | ⟨a, n', cap', h, hnc, _⟩
  · simp only [Value.cells, List.cons.injEq, Value.slice.injEq, and_true] at h
    omega
  · simp only [Value.cells, List.cons.injEq, Value.slice.injEq, and_true] at h
    omega
theorem SV_flat (l : List Str) : l.flatMap (fun s => [Value.string ⟨⟨s⟩⟩]) = SV l := by
  induction l with
  | nil => rfl
  | cons x l ih => rw [List.flatMap_cons, ih]; rfl
theorem SeenV.strings {R : Rd} {v : Value} (h : SeenV R (.sl 1 .str) v) : ∃ l : List Str, l.length ≤ maxLen ∧ Ss R v l ∧ ∀ s ∈ l, s.length ≤ maxLen := by
  obtain ⟨l, hok, hl, hs⟩ := h.slice (fun s : Str => [Value.string ⟨⟨s⟩⟩]) (fun s => s.length ≤ maxLen) (fun _ _ => rfl) (fun xs _ hx => by
    obtain ⟨⟨⟨x⟩⟩, rfl, hw⟩ := hx
    exact ⟨x, hw, rfl⟩)
  rw [SV_flat] at hs
  obtain ⟨A, cap, rfl⟩ := SlR.slice hs
  exact ⟨l, hl, ⟨A, cap, rfl, h.cap, hs⟩, hok⟩
theorem SeenV.bytesCap {R : Rd} {v : Value} (h : SeenV R (.sl 1 (.int .u8)) v) : ∃ (l : List UInt8) (A : Option Addr) (cap : Nat), v = .slice A l.length cap ∧ l.length ≤ maxLen ∧ l.length ≤ cap ∧ BsR R v l := by
  obtain ⟨l, hl, hs⟩ := h.bytes
  obtain ⟨A, cap, rfl⟩ := hs.form
  exact ⟨l, A, cap, rfl, hl, h.cap, hs⟩
theorem SeenV.str {R : Rd} {v : Value} (h : SeenV R .str v) : ∃ s : Str, v = .string ⟨⟨s⟩⟩ ∧ s.length ≤ maxLen := by
  obtain ⟨⟨⟨s⟩⟩, rfl, hs⟩ := h.string
  exact ⟨s, rfl, hs⟩


set_option maxRecDepth 100000 in
theorem MerkleSums_law (R : Rd) (hG : ShaG R) (v0 v1 v2 : Value) (s0 : SeenV R (.sl 1 (.int .u8)) v0) (s1 : SeenV R .str v1) (s2 : SeenV R .str v2) :
    Fn Tryd.prog 3 [v0, v1, v2] [] R (fun v _ => v = .bool true) := by
  obtain ⟨x, A, cap, rfl, hx, hcap, hs⟩ := s0.bytesCap
  obtain ⟨l, rfl, hl⟩ := s1.str
  obtain ⟨r, rfl, hr⟩ := s2.str
  refine fn_of_vc mixed tabOk Tryd.func3 rfl (by kernel_rfl) (Nat.le_of_ble_eq_true rfl) ?_
  refine ⟨[], _, awake_ok _ (hG.rh _), ?_⟩
  rintro _ _ ⟨rfl, rfl⟩
  by_cases c1 : (200 : Int) < x.length
  · repeat (first | (refine ⟨fun h => ?_, fun h => ?_⟩; rotate_left 1; (focus (exfalso; (first | (with_reducible (cases h; done)) | (revert h; simp; done) | (revert h; simp; omega) | (revert h; simp [*]; done)))); clear h) | (refine ⟨fun h => ?_, fun h => ?_⟩; (focus (exfalso; (first | (with_reducible (cases h; done)) | (revert h; simp; done) | (revert h; simp; omega) | (revert h; simp [*]; done)))); clear h))
    refine ⟨[], _, awake_ok _ (hG.rh _), ?_⟩
    rintro _ _ ⟨rfl, rfl⟩
    exact ⟨_, Ent.refl _, rfl⟩
  by_cases c2 : (200 : Int) < l.length
  · repeat (first | (refine ⟨fun h => ?_, fun h => ?_⟩; rotate_left 1; (focus (exfalso; (first | (with_reducible (cases h; done)) | (revert h; simp; done) | (revert h; simp; omega) | (revert h; simp [*]; done)))); clear h) | (refine ⟨fun h => ?_, fun h => ?_⟩; (focus (exfalso; (first | (with_reducible (cases h; done)) | (revert h; simp; done) | (revert h; simp; omega) | (revert h; simp [*]; done)))); clear h))
    refine ⟨[], _, awake_ok _ (hG.rh _), ?_⟩
    rintro _ _ ⟨rfl, rfl⟩
    exact ⟨_, Ent.refl _, rfl⟩
  by_cases c3 : (200 : Int) < r.length
  · repeat (first | (refine ⟨fun h => ?_, fun h => ?_⟩; rotate_left 1; (focus (exfalso; (first | (with_reducible (cases h; done)) | (revert h; simp; done) | (revert h; simp; omega) | (revert h; simp [*]; done)))); clear h) | (refine ⟨fun h => ?_, fun h => ?_⟩; (focus (exfalso; (first | (with_reducible (cases h; done)) | (revert h; simp; done) | (revert h; simp; omega) | (revert h; simp [*]; done)))); clear h))
    refine ⟨[], _, awake_ok _ (hG.rh _), ?_⟩
    rintro _ _ ⟨rfl, rfl⟩
    exact ⟨_, Ent.refl _, rfl⟩
  repeat (first | (refine ⟨fun h => ?_, fun h => ?_⟩; rotate_left 1; (focus (exfalso; (first | (with_reducible (cases h; done)) | (revert h; simp; done) | (revert h; simp; omega) | (revert h; simp [*]; done)))); clear h) | (refine ⟨fun h => ?_, fun h => ?_⟩; (focus (exfalso; (first | (with_reducible (cases h; done)) | (revert h; simp; done) | (revert h; simp; omega) | (revert h; simp [*]; done)))); clear h))
  refine ⟨[], _, Leaf_ok _ (hG.rh _) x A cap (by omega) hcap (hs.rh _), ?_⟩
  rintro _ _ ⟨rfl, rfl⟩
  refine ⟨[], _, refLeaf_ok _ x _ (by omega) (hs.rh _), ?_⟩
  rintro _ _ ⟨rfl, rfl⟩
  repeat (first | (refine ⟨fun h => ?_, fun h => ?_⟩; rotate_left 1; (focus (exfalso; (first | (with_reducible (cases h; done)) | (revert h; simp; done) | (revert h; simp; omega) | (revert h; simp [*]; done)))); clear h) | (refine ⟨fun h => ?_, fun h => ?_⟩; (focus (exfalso; (first | (with_reducible (cases h; done)) | (revert h; simp; done) | (revert h; simp; omega) | (revert h; simp [*]; done)))); clear h))
  refine ⟨[], _, Node_ok _ (hG.rh _) l r (by omega) (by omega), ?_⟩
  rintro _ _ ⟨rfl, rfl⟩
  repeat (first | (refine ⟨fun h => ?_, fun h => ?_⟩; rotate_left 1; (focus (exfalso; (first | (with_reducible (cases h; done)) | (revert h; simp; done) | (revert h; simp; omega) | (revert h; simp [*]; done)))); clear h) | (refine ⟨fun h => ?_, fun h => ?_⟩; (focus (exfalso; (first | (with_reducible (cases h; done)) | (revert h; simp; done) | (revert h; simp; omega) | (revert h; simp [*]; done)))); clear h))
  refine ⟨[], _, refNode_ok _ l r (by omega) (by omega), ?_⟩
  rintro _ _ ⟨rfl, rfl⟩
  repeat (first | (refine ⟨fun h => ?_, fun h => ?_⟩; rotate_left 1; (focus (exfalso; (first | (with_reducible (cases h; done)) | (revert h; simp; done) | (revert h; simp; omega) | (revert h; simp [*]; done)))); clear h) | (refine ⟨fun h => ?_, fun h => ?_⟩; (focus (exfalso; (first | (with_reducible (cases h; done)) | (revert h; simp; done) | (revert h; simp; omega) | (revert h; simp [*]; done)))); clear h))
  refine ⟨_, Ent.refl _, ?_⟩
  show Value.bool (decide (nodeOf l r = nodeOf l r)) = _
  rw [decide_eq_true rfl]

set_option maxRecDepth 100000 in
theorem MerkleRoot_law (R : Rd) (hG : ShaG R) (v0 : Value) (s0 : SeenV R (.sl 1 .str) v0) : Fn Tryd.prog 4 [v0] [] R (fun v _ => v = .bool true) := by
  obtain ⟨l, hl, hs, _⟩ := s0.strings
  have hs' := hs
  obtain ⟨A, cap, rfl, hc, hsr⟩ := hs
  have hML := maxLen_eq
  refine fn_of_vc mixed tabOk Tryd.func4 rfl (by kernel_rfl) (Nat.le_of_ble_eq_true rfl) ?_
  refine ⟨[], _, awake_ok _ (hG.rh _), ?_⟩
  rintro _ _ ⟨rfl, rfl⟩
  repeat (first | (refine ⟨fun h => ?_, fun h => ?_⟩; rotate_left 1; (focus (exfalso; (first | (with_reducible (cases h; done)) | (revert h; simp; done) | (revert h; simp; omega) | (revert h; simp [*]; done)))); clear h) | (refine ⟨fun h => ?_, fun h => ?_⟩; (focus (exfalso; (first | (with_reducible (cases h; done)) | (revert h; simp; done) | (revert h; simp; omega) | (revert h; simp [*]; done)))); clear h))
  refine ⟨[], _, few_ok _ l _ (by omega) (hsr.rh _), ?_⟩
  rintro _ _ ⟨rfl, rfl⟩
  cases c1 : fewB l
  · repeat (first | (refine ⟨fun h => ?_, fun h => ?_⟩; rotate_left 1; (focus (exfalso; (first | (with_reducible (cases h; done)) | (revert h; simp; done) | (revert h; simp; omega) | (revert h; simp [*]; done)))); clear h) | (refine ⟨fun h => ?_, fun h => ?_⟩; (focus (exfalso; (first | (with_reducible (cases h; done)) | (revert h; simp; done) | (revert h; simp; omega) | (revert h; simp [*]; done)))); clear h))
    refine ⟨[], _, awake_ok _ (hG.rh _), ?_⟩
    rintro _ _ ⟨rfl, rfl⟩
    exact ⟨_, Ent.refl _, rfl⟩
  obtain ⟨hsm, _, _⟩ := fewB_small c1
  repeat (first | (refine ⟨fun h => ?_, fun h => ?_⟩; rotate_left 1; (focus (exfalso; (first | (with_reducible (cases h; done)) | (revert h; simp; done) | (revert h; simp; omega) | (revert h; simp [*]; done)))); clear h) | (refine ⟨fun h => ?_, fun h => ?_⟩; (focus (exfalso; (first | (with_reducible (cases h; done)) | (revert h; simp; done) | (revert h; simp; omega) | (revert h; simp [*]; done)))); clear h))
  refine ⟨[], _, Root_ok _ (hG.rh _) _ l _ rfl hsm (hs'.rh _), ?_⟩
  rintro _ _ ⟨rfl, rfl⟩
  refine ⟨[], _, refRoot_ok _ _ l _ rfl hsm (hs'.rh _), ?_⟩
  rintro _ _ ⟨rfl, rfl⟩
  refine ⟨_, Ent.refl _, ?_⟩
  show Value.bool (decide (rootOf l = rootOf l)) = _
  rw [decide_eq_true rfl]

set_option maxRecDepth 100000 in
theorem MerklePath_law (R : Rd) (hG : ShaG R) (v0 v1 : Value) (s0 : SeenV R (.sl 1 .str) v0) (s1 : SeenV R (.int .i64) v1) : Fn Tryd.prog 5 [v0, v1] [] R (fun v _ => v = .bool true) := by
  obtain ⟨l, hl, hs, _⟩ := s0.strings
  obtain ⟨i, rfl, _, _⟩ := s1.i64
  have hs' := hs
  obtain ⟨A, cap, rfl, hc, hsr⟩ := hs
  have hML := maxLen_eq
  refine fn_of_vc mixed tabOk Tryd.func5 rfl (by kernel_rfl) (Nat.le_of_ble_eq_true rfl) ?_
  refine ⟨[], _, awake_ok _ (hG.rh _), ?_⟩
  rintro _ _ ⟨rfl, rfl⟩
  repeat (first | (refine ⟨fun h => ?_, fun h => ?_⟩; rotate_left 1; (focus (exfalso; (first | (with_reducible (cases h; done)) | (revert h; simp; done) | (revert h; simp; omega) | (revert h; simp [*]; done)))); clear h) | (refine ⟨fun h => ?_, fun h => ?_⟩; (focus (exfalso; (first | (with_reducible (cases h; done)) | (revert h; simp; done) | (revert h; simp; omega) | (revert h; simp [*]; done)))); clear h))
  refine ⟨[], _, few_ok _ l _ (by omega) (hsr.rh _), ?_⟩
  rintro _ _ ⟨rfl, rfl⟩
  cases c1 : fewB l
  · repeat (first | (refine ⟨fun h => ?_, fun h => ?_⟩; rotate_left 1; (focus (exfalso; (first | (with_reducible (cases h; done)) | (revert h; simp; done) | (revert h; simp; omega) | (revert h; simp [*]; done)))); clear h) | (refine ⟨fun h => ?_, fun h => ?_⟩; (focus (exfalso; (first | (with_reducible (cases h; done)) | (revert h; simp; done) | (revert h; simp; omega) | (revert h; simp [*]; done)))); clear h))
    refine ⟨[], _, awake_ok _ (hG.rh _), ?_⟩
    rintro _ _ ⟨rfl, rfl⟩
    exact ⟨_, Ent.refl _, rfl⟩
  obtain ⟨hsm, hl20, _⟩ := fewB_small c1
  repeat (first | (refine ⟨fun h => ?_, fun h => ?_⟩; rotate_left 1; (focus (exfalso; (first | (with_reducible (cases h; done)) | (revert h; simp; done) | (revert h; simp; omega) | (revert h; simp [*]; done)))); clear h) | (refine ⟨fun h => ?_, fun h => ?_⟩; (focus (exfalso; (first | (with_reducible (cases h; done)) | (revert h; simp; done) | (revert h; simp; omega) | (revert h; simp [*]; done)))); clear h))
  refine ⟨[], _, Path_ok _ (hG.rh _) l i _ hsm (hs'.rh _), ?_⟩
  rintro _ _ ⟨A1, k1, cap1, xs1, rfl, hg1, hc1⟩
  have hple := pathR_le l.length l i.toNat rfl
  rcases hc1 with ⟨hn, rfl, rfl, rfl⟩ | ⟨h0, h1, rfl, rfl, rfl⟩
  · refine ⟨[], _, refPath_ok _ l i _ hsm (hs'.rh _), ?_⟩
    rintro _ _ ⟨A2, k2, cap2, xs2, rfl, hg2, hc2⟩
    rcases hc2 with ⟨_, rfl, rfl, rfl⟩ | ⟨h0, h1, _⟩
    case inr => exact absurd ⟨h0, h1⟩ hn
    repeat (first | (refine ⟨fun h => ?_, fun h => ?_⟩; rotate_left 1; (focus (exfalso; (first | (with_reducible (cases h; done)) | (revert h; simp; done) | (revert h; simp; omega) | (revert h; simp [*]; done)))); clear h) | (refine ⟨fun h => ?_, fun h => ?_⟩; (focus (exfalso; (first | (with_reducible (cases h; done)) | (revert h; simp; done) | (revert h; simp; omega) | (revert h; simp [*]; done)))); clear h))
    refine ⟨[], _, same_ok _ [] [] _ _ (by show 0 ≤ _; omega) (SlR.own 0 rfl rfl hg1) (SlR.own 1 rfl rfl hg2), ?_⟩
    rintro _ _ ⟨rfl, rfl⟩
    repeat (first | (refine ⟨fun h => ?_, fun h => ?_⟩; rotate_left 1; (focus (exfalso; (first | (with_reducible (cases h; done)) | (revert h; simp; done) | (revert h; simp; omega) | (revert h; simp [*]; done)))); clear h) | (refine ⟨fun h => ?_, fun h => ?_⟩; (focus (exfalso; (first | (with_reducible (cases h; done)) | (revert h; simp; done) | (revert h; simp; omega) | (revert h; simp [*]; done)))); clear h))
    exact ⟨_, Ent.refl _, rfl⟩
  · refine ⟨[], _, refPath_ok _ l i _ hsm (hs'.rh _), ?_⟩
    rintro _ _ ⟨A2, k2, cap2, xs2, rfl, hg2, hc2⟩
    rcases hc2 with ⟨hn, _⟩ | ⟨_, _, rfl, rfl, rfl⟩
    · exact absurd ⟨h0, h1⟩ hn
    repeat (first | (refine ⟨fun h => ?_, fun h => ?_⟩; rotate_left 1; (focus (exfalso; (first | (with_reducible (cases h; done)) | (revert h; simp; done) | (revert h; simp; omega) | (revert h; simp [*]; done)))); clear h) | (refine ⟨fun h => ?_, fun h => ?_⟩; (focus (exfalso; (first | (with_reducible (cases h; done)) | (revert h; simp; done) | (revert h; simp; omega) | (revert h; simp [*]; done)))); clear h))
    refine ⟨[], _, same_ok _ (pathOf l i.toNat) (pathOf l i.toNat) _ _ (by rw [pathOf, List.length_reverse]; omega) (SlR.own 0 rfl (by rw [SV_length, Nat.mul_one]) hg1) (SlR.own 1 rfl (by rw [SV_length, Nat.mul_one]) hg2), ?_⟩
    rintro _ _ ⟨rfl, rfl⟩
    rw [decide_eq_true (rfl : pathOf l i.toNat = pathOf l i.toNat)]
    repeat (first | (refine ⟨fun h => ?_, fun h => ?_⟩; rotate_left 1; (focus (exfalso; (first | (with_reducible (cases h; done)) | (revert h; simp; done) | (revert h; simp; omega) | (revert h; simp [*]; done)))); clear h) | (refine ⟨fun h => ?_, fun h => ?_⟩; (focus (exfalso; (first | (with_reducible (cases h; done)) | (revert h; simp; done) | (revert h; simp; omega) | (revert h; simp [*]; done)))); clear h))
    exact ⟨_, Ent.refl _, rfl⟩

theorem beq_self_value (b : Bool) : Value.bool (b == b) = .bool true := by cases b <;> rfl

set_option maxRecDepth 100000 in
theorem MerkleVerify_law (R : Rd) (hG : ShaG R) (v0 v1 v2 v3 v4 : Value) (s0 : SeenV R .str v0) (s1 : SeenV R (.int .i64) v1) (s2 : SeenV R (.int .i64) v2) (s3 : SeenV R (.sl 1 .str) v3) (s4 : SeenV R .str v4) :
    Fn Tryd.prog 6 [v0, v1, v2, v3, v4] [] R (fun v _ => v = .bool true) := by
  obtain ⟨leaf, rfl, hleaf⟩ := s0.str
  obtain ⟨i, rfl, hi, _⟩ := s1.i64
  obtain ⟨n, rfl, _, hn⟩ := s2.i64
  obtain ⟨l, hl, hs, _⟩ := s3.strings
  obtain ⟨root, rfl, hroot⟩ := s4.str
  have hs' := hs
  obtain ⟨A, cap, rfl, hc, hsr⟩ := hs
  have hML := maxLen_eq
  refine fn_of_vc mixed tabOk Tryd.func6 rfl (by kernel_rfl) (Nat.le_of_ble_eq_true rfl) ?_
  refine ⟨[], _, awake_ok _ (hG.rh _), ?_⟩
  rintro _ _ ⟨rfl, rfl⟩
  repeat (first | (refine ⟨fun h => ?_, fun h => ?_⟩; rotate_left 1; (focus (exfalso; (first | (with_reducible (cases h; done)) | (revert h; simp; done) | (revert h; simp; omega) | (revert h; simp [*]; done)))); clear h) | (refine ⟨fun h => ?_, fun h => ?_⟩; (focus (exfalso; (first | (with_reducible (cases h; done)) | (revert h; simp; done) | (revert h; simp; omega) | (revert h; simp [*]; done)))); clear h))
  refine ⟨[], _, few_ok _ l _ (by omega) (hsr.rh _), ?_⟩
  rintro _ _ ⟨rfl, rfl⟩
  cases c1 : fewB l
  · repeat (first | (refine ⟨fun h => ?_, fun h => ?_⟩; rotate_left 1; (focus (exfalso; (first | (with_reducible (cases h; done)) | (revert h; simp; done) | (revert h; simp; omega) | (revert h; simp [*]; done)))); clear h) | (refine ⟨fun h => ?_, fun h => ?_⟩; (focus (exfalso; (first | (with_reducible (cases h; done)) | (revert h; simp; done) | (revert h; simp; omega) | (revert h; simp [*]; done)))); clear h))
    refine ⟨[], _, awake_ok _ (hG.rh _), ?_⟩
    rintro _ _ ⟨rfl, rfl⟩
    exact ⟨_, Ent.refl _, rfl⟩
  obtain ⟨hsm, _, _⟩ := fewB_small c1
  by_cases c2 : (64 : Int) < leaf.length
  · repeat (first | (refine ⟨fun h => ?_, fun h => ?_⟩; rotate_left 1; (focus (exfalso; (first | (with_reducible (cases h; done)) | (revert h; simp; done) | (revert h; simp; omega) | (revert h; simp [*]; done)))); clear h) | (refine ⟨fun h => ?_, fun h => ?_⟩; (focus (exfalso; (first | (with_reducible (cases h; done)) | (revert h; simp; done) | (revert h; simp; omega) | (revert h; simp [*]; done)))); clear h))
    refine ⟨[], _, awake_ok _ (hG.rh _), ?_⟩
    rintro _ _ ⟨rfl, rfl⟩
    exact ⟨_, Ent.refl _, rfl⟩
  by_cases c3 : (64 : Int) < root.length
  · repeat (first | (refine ⟨fun h => ?_, fun h => ?_⟩; rotate_left 1; (focus (exfalso; (first | (with_reducible (cases h; done)) | (revert h; simp; done) | (revert h; simp; omega) | (revert h; simp [*]; done)))); clear h) | (refine ⟨fun h => ?_, fun h => ?_⟩; (focus (exfalso; (first | (with_reducible (cases h; done)) | (revert h; simp; done) | (revert h; simp; omega) | (revert h; simp [*]; done)))); clear h))
    refine ⟨[], _, awake_ok _ (hG.rh _), ?_⟩
    rintro _ _ ⟨rfl, rfl⟩
    exact ⟨_, Ent.refl _, rfl⟩
  repeat (first | (refine ⟨fun h => ?_, fun h => ?_⟩; rotate_left 1; (focus (exfalso; (first | (with_reducible (cases h; done)) | (revert h; simp; done) | (revert h; simp; omega) | (revert h; simp [*]; done)))); clear h) | (refine ⟨fun h => ?_, fun h => ?_⟩; (focus (exfalso; (first | (with_reducible (cases h; done)) | (revert h; simp; done) | (revert h; simp; omega) | (revert h; simp [*]; done)))); clear h))
  refine ⟨[], _, Verify_ok _ (hG.rh _) leaf root i n l _ hi hn (by omega) hsm (hs'.rh _), ?_⟩
  rintro _ _ ⟨rfl, rfl⟩
  refine ⟨[], _, refVerify_ok _ leaf root i n l _ hi hn (by omega) hsm (hs'.rh _), ?_⟩
  rintro _ _ ⟨rfl, rfl⟩
  exact ⟨_, Ent.refl _, beq_self_value _⟩

set_option maxRecDepth 100000 in
theorem MerkleConsistent_law (R : Rd) (hG : ShaG R) (v0 v1 v2 v3 v4 : Value) (s0 : SeenV R (.int .i64) v0) (s1 : SeenV R (.int .i64) v1) (s2 : SeenV R .str v2) (s3 : SeenV R .str v3) (s4 : SeenV R (.sl 1 .str) v4) :
    Fn Tryd.prog 9 [v0, v1, v2, v3, v4] [] R (fun v _ => v = .bool true) := by
  obtain ⟨m, rfl, hm, _⟩ := s0.i64
  obtain ⟨n, rfl, _, hn⟩ := s1.i64
  obtain ⟨old, rfl, hold⟩ := s2.str
  obtain ⟨new, rfl, hnew⟩ := s3.str
  obtain ⟨l, hl, hs, _⟩ := s4.strings
  have hs' := hs
  obtain ⟨A, cap, rfl, hc, hsr⟩ := hs
  have hML := maxLen_eq
  refine fn_of_vc mixed tabOk Tryd.func9 rfl (by kernel_rfl) (Nat.le_of_ble_eq_true rfl) ?_
  refine ⟨[], _, awake_ok _ (hG.rh _), ?_⟩
  rintro _ _ ⟨rfl, rfl⟩
  repeat (first | (refine ⟨fun h => ?_, fun h => ?_⟩; rotate_left 1; (focus (exfalso; (first | (with_reducible (cases h; done)) | (revert h; simp; done) | (revert h; simp; omega) | (revert h; simp [*]; done)))); clear h) | (refine ⟨fun h => ?_, fun h => ?_⟩; (focus (exfalso; (first | (with_reducible (cases h; done)) | (revert h; simp; done) | (revert h; simp; omega) | (revert h; simp [*]; done)))); clear h))
  refine ⟨[], _, few_ok _ l _ (by omega) (hsr.rh _), ?_⟩
  rintro _ _ ⟨rfl, rfl⟩
  cases c1 : fewB l
  · repeat (first | (refine ⟨fun h => ?_, fun h => ?_⟩; rotate_left 1; (focus (exfalso; (first | (with_reducible (cases h; done)) | (revert h; simp; done) | (revert h; simp; omega) | (revert h; simp [*]; done)))); clear h) | (refine ⟨fun h => ?_, fun h => ?_⟩; (focus (exfalso; (first | (with_reducible (cases h; done)) | (revert h; simp; done) | (revert h; simp; omega) | (revert h; simp [*]; done)))); clear h))
    refine ⟨[], _, awake_ok _ (hG.rh _), ?_⟩
    rintro _ _ ⟨rfl, rfl⟩
    exact ⟨_, Ent.refl _, rfl⟩
  obtain ⟨hsm, _, _⟩ := fewB_small c1
  by_cases c2 : (64 : Int) < old.length
  · repeat (first | (refine ⟨fun h => ?_, fun h => ?_⟩; rotate_left 1; (focus (exfalso; (first | (with_reducible (cases h; done)) | (revert h; simp; done) | (revert h; simp; omega) | (revert h; simp [*]; done)))); clear h) | (refine ⟨fun h => ?_, fun h => ?_⟩; (focus (exfalso; (first | (with_reducible (cases h; done)) | (revert h; simp; done) | (revert h; simp; omega) | (revert h; simp [*]; done)))); clear h))
    refine ⟨[], _, awake_ok _ (hG.rh _), ?_⟩
    rintro _ _ ⟨rfl, rfl⟩
    exact ⟨_, Ent.refl _, rfl⟩
  by_cases c3 : (64 : Int) < new.length
  · repeat (first | (refine ⟨fun h => ?_, fun h => ?_⟩; rotate_left 1; (focus (exfalso; (first | (with_reducible (cases h; done)) | (revert h; simp; done) | (revert h; simp; omega) | (revert h; simp [*]; done)))); clear h) | (refine ⟨fun h => ?_, fun h => ?_⟩; (focus (exfalso; (first | (with_reducible (cases h; done)) | (revert h; simp; done) | (revert h; simp; omega) | (revert h; simp [*]; done)))); clear h))
    refine ⟨[], _, awake_ok _ (hG.rh _), ?_⟩
    rintro _ _ ⟨rfl, rfl⟩
    exact ⟨_, Ent.refl _, rfl⟩
  repeat (first | (refine ⟨fun h => ?_, fun h => ?_⟩; rotate_left 1; (focus (exfalso; (first | (with_reducible (cases h; done)) | (revert h; simp; done) | (revert h; simp; omega) | (revert h; simp [*]; done)))); clear h) | (refine ⟨fun h => ?_, fun h => ?_⟩; (focus (exfalso; (first | (with_reducible (cases h; done)) | (revert h; simp; done) | (revert h; simp; omega) | (revert h; simp [*]; done)))); clear h))
  refine ⟨[], _, Consistent_ok _ (hG.rh _) m n old new l _ hm hn (by omega) hsm (hs'.rh _), ?_⟩
  rintro _ _ ⟨rfl, rfl⟩
  refine ⟨[], _, refConsistent_ok _ m n old new l _ hm hn (by omega) hsm (hs'.rh _), ?_⟩
  rintro _ _ ⟨rfl, rfl⟩
  exact ⟨_, Ent.refl _, beq_self_value _⟩

end Go.Proofs.YtgbdfpfiolbhlaaDoor
