/-
  Top: contracts of the package reedsolomon.
-/
import Derived.Test.YtgnmbgbiajgpeaaDoorToc
namespace Go.Proofs.YtgnmbgbiajgpeaaDoor
open Go Go.RowKit
set_option linter.unusedVariables false
set_option linter.unusedSimpArgs false

theorem RValid_ok (R : Rd) (d t : Int) : Fn Tryd.prog 29 [.int .i64 d, .int .i64 t] [] R (fun v h => v = .bool (decide (1 ≤ d ∧ d ≤ 8 ∧ d ≤ t ∧ t ≤ 16)) ∧ h = []) := by
  refine fn_of_vc mixed tabOk Tryd.func29 rfl (by kernel_rfl) (Nat.le_of_ble_eq_true rfl) ?_
  by_cases c1 : 1 ≤ d
  case neg =>
    repeat (first | (refine ⟨fun h => ?_, fun h => ?_⟩; rotate_left 1; (focus (exfalso; (first | (with_reducible (cases h; done)) | (revert h; simp; done) | (revert h; simp; omega) | (revert h; simp [*]; done)))); clear h) | (refine ⟨fun h => ?_, fun h => ?_⟩; (focus (exfalso; (first | (with_reducible (cases h; done)) | (revert h; simp; done) | (revert h; simp; omega) | (revert h; simp [*]; done)))); clear h))
    exact ⟨_, Ent.refl _, no_D rfl (fun h => c1 h.1), rfl⟩
  by_cases c2 : d ≤ 8
  case neg =>
    repeat (first | (refine ⟨fun h => ?_, fun h => ?_⟩; rotate_left 1; (focus (exfalso; (first | (with_reducible (cases h; done)) | (revert h; simp; done) | (revert h; simp; omega) | (revert h; simp [*]; done)))); clear h) | (refine ⟨fun h => ?_, fun h => ?_⟩; (focus (exfalso; (first | (with_reducible (cases h; done)) | (revert h; simp; done) | (revert h; simp; omega) | (revert h; simp [*]; done)))); clear h))
    exact ⟨_, Ent.refl _, no_D rfl (fun h => c2 h.2.1), rfl⟩
  by_cases c3 : d ≤ t
  case neg =>
    repeat (first | (refine ⟨fun h => ?_, fun h => ?_⟩; rotate_left 1; (focus (exfalso; (first | (with_reducible (cases h; done)) | (revert h; simp; done) | (revert h; simp; omega) | (revert h; simp [*]; done)))); clear h) | (refine ⟨fun h => ?_, fun h => ?_⟩; (focus (exfalso; (first | (with_reducible (cases h; done)) | (revert h; simp; done) | (revert h; simp; omega) | (revert h; simp [*]; done)))); clear h))
    exact ⟨_, Ent.refl _, no_D rfl (fun h => c3 h.2.2.1), rfl⟩
  by_cases c4 : t ≤ 16
  · repeat (first | (refine ⟨fun h => ?_, fun h => ?_⟩; rotate_left 1; (focus (exfalso; (first | (with_reducible (cases h; done)) | (revert h; simp; done) | (revert h; simp; omega) | (revert h; simp [*]; done)))); clear h) | (refine ⟨fun h => ?_, fun h => ?_⟩; (focus (exfalso; (first | (with_reducible (cases h; done)) | (revert h; simp; done) | (revert h; simp; omega) | (revert h; simp [*]; done)))); clear h))
    exact ⟨_, Ent.refl _, yes_D (decide_eq_true c4) ⟨c1, c2, c3, c4⟩, rfl⟩
  · repeat (first | (refine ⟨fun h => ?_, fun h => ?_⟩; rotate_left 1; (focus (exfalso; (first | (with_reducible (cases h; done)) | (revert h; simp; done) | (revert h; simp; omega) | (revert h; simp [*]; done)))); clear h) | (refine ⟨fun h => ?_, fun h => ?_⟩; (focus (exfalso; (first | (with_reducible (cases h; done)) | (revert h; simp; done) | (revert h; simp; omega) | (revert h; simp [*]; done)))); clear h))
    exact ⟨_, Ent.refl _, no_D (decide_eq_false c4) (fun h => c4 h.2.2.2), rfl⟩
/-- Blocks of one length. -/
structure BlkR (l : List Str) (len : Nat) : Prop where
  l1 : 1 ≤ len
  l2 : len ≤ 65536
  all : ∀ x ∈ l, x.length = len
theorem BlkR.get {l : List Str} {len : Nat} (h : BlkR l len) {i : Nat} (hi : i < l.length) : (l.getD i []).length = len := by
  rw [List.getD_eq_getElem?_getD, List.getElem?_eq_getElem hi]
  exact h.all _ (List.getElem_mem hi)
set_option maxRecDepth 100000 in
set_option maxHeartbeats 2000000 in
theorem oneLength_ok {s : Bool} (R : Rd) (l : List Str) (len : Nat) (v : Value) (hm : BlkR l len) (hl : l.length ≤ 1000) (hs : Bss s R v l) : Fn Tryd.prog 75 [v] [] R (fun v h => v = .bool true ∧ h = []) := by
  have hs' := hs
  obtain ⟨A, cap, vs, rfl, _⟩ := hs'
  have h1 := hm.l1
  have h2 := hm.l2
  refine fn_of_vc mixed tabOk Tryd.func75 rfl (by kernel_rfl) (Nat.le_of_ble_eq_true rfl) ?_
  refine ⟨[none, none, some 2, none, some 4, none, none, some 7, some 8, some 9, some 10, some 11, some 12, some 13, some 14, some 15, some 16, some 17, some 18, some 19, some 20, some 21, some 22, some 23, some 24, some 25, some 26, some 27, some 28], [7], Nat, fun k => k ≤ l.length, fun k => [.int .i64 k], fun _ => [], fun k => l.length - k, 0, Nat.zero_le _, ⟨rfl, trivial⟩, Ent.refl _, ?_⟩
  intro k hk js
  have hk : k ≤ l.length := hk
  by_cases d : k < l.length
  · repeat (first | (refine ⟨fun h => ?_, fun h => ?_⟩; rotate_left 1; (focus (exfalso; (first | (with_reducible (cases h; done)) | (revert h; simp; done) | (revert h; simp; omega) | (revert h; simp [*]; done)))); clear h) | (refine ⟨fun h => ?_, fun h => ?_⟩; (focus (exfalso; (first | (with_reducible (cases h; done)) | (revert h; simp; done) | (revert h; simp; omega) | (revert h; simp [*]; done)))); clear h))
    obtain ⟨a, B, bc, hA, hra, hbk⟩ := hs.at_ d
    obtain ⟨a0, B0, bc0, hA0, hra0, hb0⟩ := hs.at_ (i := 0) (by omega)
    rw [hm.get d] at hra
    rw [hm.get (by omega)] at hra0
    clear hbk hb0
    refine ⟨by omega, by omega, a, hA, ?_⟩
    refine ⟨_, .inl hra, ?_⟩
    repeat (first | (refine ⟨fun h => ?_, fun h => ?_⟩; rotate_left 1; (focus (exfalso; (first | (with_reducible (cases h; done)) | (revert h; simp; done) | (revert h; simp; omega) | (revert h; simp [*]; done)))); clear h) | (refine ⟨fun h => ?_, fun h => ?_⟩; (focus (exfalso; (first | (with_reducible (cases h; done)) | (revert h; simp; done) | (revert h; simp; omega) | (revert h; simp [*]; done)))); clear h))
    refine ⟨by omega, by omega, a0, hA0, ?_⟩
    repeat (first | (refine ⟨fun h => ?_, fun h => ?_⟩; rotate_left 1; (focus (exfalso; (first | (with_reducible (cases h; done)) | (revert h; simp; done) | (revert h; simp; omega) | (revert h; simp [*]; done)))); clear h) | (refine ⟨fun h => ?_, fun h => ?_⟩; (focus (exfalso; (first | (with_reducible (cases h; done)) | (revert h; simp; done) | (revert h; simp; omega) | (revert h; simp [*]; done)))); clear h))
    refine ⟨_, .inl hra0, ?_⟩
    repeat (first | (refine ⟨fun h => ?_, fun h => ?_⟩; rotate_left 1; (focus (exfalso; (first | (with_reducible (cases h; done)) | (revert h; simp; done) | (revert h; simp; omega) | (revert h; simp [*]; done)))); clear h) | (refine ⟨fun h => ?_, fun h => ?_⟩; (focus (exfalso; (first | (with_reducible (cases h; done)) | (revert h; simp; done) | (revert h; simp; omega) | (revert h; simp [*]; done)))); clear h))
    (intro z hz; obtain rfl : z = ((k + 1 : Nat) : Int) := (by first | (rw [IntKind.wrap_i64] at hz; omega) | (rw [IntKind.wrap_u64] at hz; omega) | omega); clear hz)
    exact ⟨rfl, k + 1, d, by show l.length - (k + 1) < l.length - k; omega, ⟨rfl, trivial⟩, Ent.refl _, rfl⟩
  · repeat (first | (refine ⟨fun h => ?_, fun h => ?_⟩; rotate_left 1; (focus (exfalso; (first | (with_reducible (cases h; done)) | (revert h; simp; done) | (revert h; simp; omega) | (revert h; simp [*]; done)))); clear h) | (refine ⟨fun h => ?_, fun h => ?_⟩; (focus (exfalso; (first | (with_reducible (cases h; done)) | (revert h; simp; done) | (revert h; simp; omega) | (revert h; simp [*]; done)))); clear h))
    exact ⟨_, Ent.refl _, rfl, rfl⟩

/-! ### the table -/
def entT (data i c : Nat) : UInt8 := if data ≤ i then ginv (UInt8.ofNat (i ^^^ c)) else if i = c then 1 else 0
def tblF (data i c k : Nat) : UInt8 := if k / 8 < i ∨ (k / 8 = i ∧ k % 8 < c) then (if k % 8 < data then entT data (k / 8) (k % 8) else 0) else 0
def tbl (data i c : Nat) : Str := (List.range 128).map (tblF data i c)
theorem tbl_length (data i c : Nat) : (tbl data i c).length = 128 := by simp [tbl]
theorem tbl_get {data i c k : Nat} (h : k < 128) : (tbl data i c)[k]? = some (tblF data i c k) := by simp [tbl, h]
theorem tbl_zero (data : Nat) : BV (tbl data 0 0) = List.replicate 128 (.int .u8 0) := by
  apply List.ext_getElem?
  intro k
  by_cases hk : k < 128
  · rw [BV_get (tbl_get hk), List.getElem?_replicate, if_pos hk, tblF, if_neg (by omega)]; rfl
  · rw [List.getElem?_eq_none (by rw [BV_length, tbl_length]; omega), List.getElem?_eq_none (by rw [List.length_replicate]; omega)]
theorem tbl_ext {data i c i' c' : Nat} (h : ∀ k, k < 128 → tblF data i c k = tblF data i' c' k) : tbl data i c = tbl data i' c' := by
  unfold tbl
  exact List.map_congr_left fun k hk => h k (List.mem_range.1 hk)
theorem tbl_set {data i c : Nat} (hc : c < data) (hd : data ≤ 8) (hi : i < 16) : (tbl data i c).set (i * 8 + c) (entT data i c) = tbl data i (c + 1) := by
  apply List.ext_getElem?
  intro k
  rw [List.getElem?_set, tbl_length]
  by_cases hk : k < 128
  · have a1 : (tbl data i c)[k]? = some (tblF data i c k) := tbl_get hk
    have a2 : (tbl data i (c + 1))[k]? = some (tblF data i (c + 1) k) := tbl_get hk
    rw [a1, a2]
    by_cases e : i * 8 + c = k
    · have e1 : k / 8 = i := by omega
      have e2 : k % 8 = c := by omega
      rw [if_pos e, if_pos (by omega), tblF, e1, e2, if_pos (.inr ⟨rfl, Nat.lt_succ_self c⟩), if_pos hc]
    · rw [if_neg e]
      unfold tblF
      by_cases q : k / 8 < i ∨ (k / 8 = i ∧ k % 8 < c)
      · have q' : k / 8 < i ∨ (k / 8 = i ∧ k % 8 < c + 1) := by omega
        rw [if_pos q, if_pos q']
      · have q' : ¬ (k / 8 < i ∨ (k / 8 = i ∧ k % 8 < c + 1)) := by omega
        rw [if_neg q, if_neg q']
  · have h1 : ∀ m, (tbl data i m)[k]? = none := fun m => List.getElem?_eq_none (by rw [tbl_length]; omega)
    rw [h1, h1]
    by_cases e : i * 8 + c = k
    · omega
    · rw [if_neg e]
theorem tbl_same {data i c : Nat} (hc : c < data) (hd : data ≤ 8) (h0 : entT data i c = 0) : tbl data i c = tbl data i (c + 1) := tbl_ext fun k hk => by
  unfold tblF
  by_cases q : k / 8 < i ∨ (k / 8 = i ∧ k % 8 < c)
  · have q' : k / 8 < i ∨ (k / 8 = i ∧ k % 8 < c + 1) := by omega
    rw [if_pos q, if_pos q']
  · rw [if_neg q]
    by_cases q2 : k / 8 < i ∨ (k / 8 = i ∧ k % 8 < c + 1)
    · have e1 : k / 8 = i := by omega
      have e2 : k % 8 = c := by omega
      rw [if_pos q2, e1, e2, if_pos hc, h0]
    · rw [if_neg q2]
theorem tbl_row {data i : Nat} : tbl data i data = tbl data (i + 1) 0 := tbl_ext fun k hk => by
  unfold tblF
  by_cases q : k / 8 < i ∨ (k / 8 = i ∧ k % 8 < data)
  · have q' : k / 8 < i + 1 ∨ (k / 8 = i + 1 ∧ k % 8 < 0) := by omega
    rw [if_pos q, if_pos q']
  · rw [if_neg q]
    by_cases q2 : k / 8 < i + 1 ∨ (k / 8 = i + 1 ∧ k % 8 < 0)
    · rw [if_pos q2, if_neg (by omega)]
    · rw [if_neg q2]
theorem sttab {g i c : Nat} {t : TypeId} {cs : List Value} {v : Value} {K : HA → Prop} (h : 1 + i * 8 + c < cs.length) (hK : K (.blk g t (cs.set (1 + i * 8 + c) v))) :
    stE (.blk g t cs) (addA (addA (addA ⟨g, 0, .none⟩ 1) (Int.toNat (i : Int) * 8)) (Int.toNat (c : Int) * 1)) [v] K := by
  rw [addA_mk, addA_mk, addA_mk, Int.toNat_natCast, Int.toNat_natCast, Nat.mul_one, Nat.zero_add]
  exact ⟨rfl, rfl, by show 1 + i * 8 + c + 1 ≤ _; omega, hK⟩
theorem bx64 {i c : Nat} (hi : i < 16) (hc : c < 16) {z : Int} (h : z = bitsOp .xor .i64 (i : Int) (c : Int)) : z = ((i ^^^ c : Nat) : Int) := by
  rw [h]
  have : ∀ a b : Fin 16, bitsOp .xor .i64 (a.val : Int) (b.val : Int) = ((a.val ^^^ b.val : Nat) : Int) := by decide +kernel
  exact this ⟨i, hi⟩ ⟨c, hc⟩
def tabC (data : Nat) (t : Str) : List Value := .int .i64 data :: BV t
theorem tabC_set {data k : Nat} {t : Str} {x : UInt8} : (tabC data t).set (1 + k) (.int .u8 x.toNat) = tabC data (t.set k x) := by
  unfold tabC
  rw [Nat.add_comm, List.set_cons_succ]
  simp [BV, List.map_set]
set_option maxRecDepth 100000 in
set_option maxHeartbeats 8000000 in
theorem newTable_ok (R : Rd) (data : Nat) (hd : data ≤ 8) : Fn Tryd.prog 78 [.int .i64 data] [] R
    (fun v h => ∃ g, v = .pointer (some ⟨g, 0, .none⟩) ∧ h = [.blk g 160 (tabC data (tbl data 16 0))]) := by
  refine fn_of_vc mixed tabOk Tryd.func78 rfl (by kernel_rfl) (Nat.le_of_ble_eq_true rfl) ?_
  intro g
  refine ⟨[none, none, none, none, some 4, some 5, none, none, none, some 9, some 10, some 11, some 12, some 13, some 14, some 15, some 16, some 17, some 18, some 19, some 20, some 21, some 22, some 23, some 24, some 25, some 26, some 27, some 28, some 29, some 30, some 31, some 32, some 33, some 34, some 35, some 36, some 37, some 38, some 39, some 40, some 41, some 42, some 43, some 44, some 45], [9], Nat, fun i => i ≤ 16, fun i => [.int .i64 i], fun i => [.blk g 160 (tabC data (tbl data i 0))], fun i => 16 - i, 0, Nat.zero_le _, ⟨rfl, trivial⟩, ?_, ?_⟩
  · show Ent _ [.blk g 160 (tabC data (tbl data 0 0))]
    unfold tabC
    rw [tbl_zero]
    exact Ent.refl _
  intro i hi js
  have hi : i ≤ 16 := hi
  by_cases d : i < 16
  · repeat (first | (refine ⟨fun h => ?_, fun h => ?_⟩; rotate_left 1; (focus (exfalso; (first | (with_reducible (cases h; done)) | (revert h; simp; done) | (revert h; simp; omega) | (revert h; simp [*]; done)))); clear h) | (refine ⟨fun h => ?_, fun h => ?_⟩; (focus (exfalso; (first | (with_reducible (cases h; done)) | (revert h; simp; done) | (revert h; simp; omega) | (revert h; simp [*]; done)))); clear h))
    refine ⟨[none, none, none, none, none, some 5, none, none, none, none, none, none, none, some 13, some 14, some 15, some 16, some 17, some 18, some 19, some 20, some 21, some 22, some 23, some 24, some 25, some 26, some 27, some 28, some 29, some 30, some 31, some 32, some 33, some 34, some 35, some 36, some 37, some 38, some 39, some 40, some 41, some 42, some 43, some 44], [13], Nat, fun c => c ≤ data, fun c => [.int .i64 c], fun c => [.blk g 160 (tabC data (tbl data i c))], fun c => data - c, 0, Nat.zero_le _, ⟨rfl, trivial⟩, Ent.refl _, ?_⟩
    intro c hc js2
    have hc : c ≤ data := hc
    by_cases d2 : c < data
    · repeat (first | (refine ⟨fun h => ?_, fun h => ?_⟩; rotate_left 1; (focus (exfalso; (first | (with_reducible (cases h; done)) | (revert h; simp; done) | (revert h; simp; omega) | (revert h; simp [*]; done)))); clear h) | (refine ⟨fun h => ?_, fun h => ?_⟩; (focus (exfalso; (first | (with_reducible (cases h; done)) | (revert h; simp; done) | (revert h; simp; omega) | (revert h; simp [*]; done)))); clear h))
      by_cases d3 : data ≤ i
      · have he : entT data i c = ginv (UInt8.ofNat (i ^^^ c)) := if_pos d3
        repeat (first | (refine ⟨fun h => ?_, fun h => ?_⟩; rotate_left 1; (focus (exfalso; (first | (with_reducible (cases h; done)) | (revert h; simp; done) | (revert h; simp; omega) | (revert h; simp [*]; done)))); clear h) | (refine ⟨fun h => ?_, fun h => ?_⟩; (focus (exfalso; (first | (with_reducible (cases h; done)) | (revert h; simp; done) | (revert h; simp; omega) | (revert h; simp [*]; done)))); clear h))
        refine ⟨[], (.q 0 (.q 1 (.q 2 (.q 3 (.q 4 (.q 5 (.q 6 (.q 11 (.q 12 (.q 13 (.one 7 (.q 8 (.q 9 (.q 10 (.q 14 (.one 15 .nil)))))))))))))))), by kernel_rfl, ?_⟩
        intro z hz
        obtain rfl := bx64 d (by omega) hz
        clear hz
        intro z hz
        obtain rfl := u8_of hz
        clear hz
        refine ⟨by omega, by omega, ?_⟩
        refine ⟨[], _, Inv_ok _ (UInt8.ofNat (i ^^^ c)), ?_⟩
        rintro _ _ ⟨rfl, rfl⟩
        refine ⟨by omega, by omega, ?_⟩
        refine ⟨rfl, rfl, 0, nthK_mk rfl (sttab (by unfold tabC; rw [List.length_cons, BV_length, tbl_length]; omega) ?_)⟩
        (intro z hz; obtain rfl : z = ((c + 1 : Nat) : Int) := (by first | (rw [IntKind.wrap_i64] at hz; omega) | (rw [IntKind.wrap_u64] at hz; omega) | omega); clear hz)
        refine ⟨rfl, c + 1, d2, by show data - (c + 1) < data - c; omega, ⟨rfl, trivial⟩, ?_, rfl⟩
        show Ent [.blk g 160 ((tabC data (tbl data i c)).set (1 + i * 8 + c) (.int .u8 (ginv (UInt8.ofNat (i ^^^ c))).toNat))] [.blk g 160 (tabC data (tbl data i (c + 1)))]
        rw [← tbl_set d2 hd d, he, ← tabC_set, Nat.add_assoc]
        exact Ent.refl _
      · by_cases d4 : i = c
        · have he : entT data i c = 1 := by unfold entT; rw [if_neg d3, if_pos d4]
          repeat (first | (refine ⟨fun h => ?_, fun h => ?_⟩; rotate_left 1; (focus (exfalso; (first | (with_reducible (cases h; done)) | (revert h; simp; done) | (revert h; simp; omega) | (revert h; simp [*]; done)))); clear h) | (refine ⟨fun h => ?_, fun h => ?_⟩; (focus (exfalso; (first | (with_reducible (cases h; done)) | (revert h; simp; done) | (revert h; simp; omega) | (revert h; simp [*]; done)))); clear h))
          refine ⟨by omega, by omega, ?_⟩
          refine ⟨by omega, by omega, ?_⟩
          refine ⟨rfl, rfl, 0, nthK_mk rfl (sttab (by unfold tabC; rw [List.length_cons, BV_length, tbl_length]; omega) ?_)⟩
          (intro z hz; obtain rfl : z = ((c + 1 : Nat) : Int) := (by first | (rw [IntKind.wrap_i64] at hz; omega) | (rw [IntKind.wrap_u64] at hz; omega) | omega); clear hz)
          refine ⟨rfl, c + 1, d2, by show data - (c + 1) < data - c; omega, ⟨rfl, trivial⟩, ?_, rfl⟩
          show Ent [.blk g 160 ((tabC data (tbl data i c)).set (1 + i * 8 + c) (.int .u8 1))] [.blk g 160 (tabC data (tbl data i (c + 1)))]
          rw [← tbl_set d2 hd d, he, ← tabC_set, Nat.add_assoc]
          exact Ent.refl _
        · have he : entT data i c = 0 := by unfold entT; rw [if_neg d3, if_neg d4]
          repeat (first | (refine ⟨fun h => ?_, fun h => ?_⟩; rotate_left 1; (focus (exfalso; (first | (with_reducible (cases h; done)) | (revert h; simp; done) | (revert h; simp; omega) | (revert h; simp [*]; done)))); clear h) | (refine ⟨fun h => ?_, fun h => ?_⟩; (focus (exfalso; (first | (with_reducible (cases h; done)) | (revert h; simp; done) | (revert h; simp; omega) | (revert h; simp [*]; done)))); clear h))
          (intro z hz; obtain rfl : z = ((c + 1 : Nat) : Int) := (by first | (rw [IntKind.wrap_i64] at hz; omega) | (rw [IntKind.wrap_u64] at hz; omega) | omega); clear hz)
          refine ⟨rfl, c + 1, d2, by show data - (c + 1) < data - c; omega, ⟨rfl, trivial⟩, ?_, rfl⟩
          show Ent [.blk g 160 (tabC data (tbl data i c))] [.blk g 160 (tabC data (tbl data i (c + 1)))]
          rw [tbl_same d2 hd he]
          exact Ent.refl _
    · repeat (first | (refine ⟨fun h => ?_, fun h => ?_⟩; rotate_left 1; (focus (exfalso; (first | (with_reducible (cases h; done)) | (revert h; simp; done) | (revert h; simp; omega) | (revert h; simp [*]; done)))); clear h) | (refine ⟨fun h => ?_, fun h => ?_⟩; (focus (exfalso; (first | (with_reducible (cases h; done)) | (revert h; simp; done) | (revert h; simp; omega) | (revert h; simp [*]; done)))); clear h))
      obtain rfl : c = data := by omega
      (intro z hz; obtain rfl : z = ((i + 1 : Nat) : Int) := (by first | (rw [IntKind.wrap_i64] at hz; omega) | (rw [IntKind.wrap_u64] at hz; omega) | omega); clear hz)
      refine ⟨rfl, i + 1, d, by show 16 - (i + 1) < 16 - i; omega, ⟨rfl, trivial⟩, ?_, rfl⟩
      show Ent [.blk g 160 (tabC c (tbl c i c))] [.blk g 160 (tabC c (tbl c (i + 1) 0))]
      rw [tbl_row]
      exact Ent.refl _
  · repeat (first | (refine ⟨fun h => ?_, fun h => ?_⟩; rotate_left 1; (focus (exfalso; (first | (with_reducible (cases h; done)) | (revert h; simp; done) | (revert h; simp; omega) | (revert h; simp [*]; done)))); clear h) | (refine ⟨fun h => ?_, fun h => ?_⟩; (focus (exfalso; (first | (with_reducible (cases h; done)) | (revert h; simp; done) | (revert h; simp; omega) | (revert h; simp [*]; done)))); clear h))
    obtain rfl : i = 16 := by omega
    exact ⟨_, Ent.refl _, g, rfl, rfl⟩

end Go.Proofs.YtgnmbgbiajgpeaaDoor
