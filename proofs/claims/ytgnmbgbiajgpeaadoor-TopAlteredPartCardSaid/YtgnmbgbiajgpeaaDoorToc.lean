/-
  Top: contracts of matrix.combine and matrix.Apply.
-/
import Derived.Test.YtgnmbgbiajgpeaaDoorTob
namespace Go.Proofs.YtgnmbgbiajgpeaaDoor
open Go Go.RowKit
set_option linter.unusedVariables false
set_option linter.unusedSimpArgs false

def combR (bl : List Str) : Str → Nat → Str → Str
  | [], _, acc => acc
  | a :: r, j, acc => combR bl r (j + 1) (if a = 0 then acc else maddL acc (bl.getD j []) a)
def zerB (len : Nat) : Str := List.replicate len 0
def combF (bl : List Str) (len : Nat) (row : Str) : Str := combR bl row 0 (zerB len)
def combL (m bl : List Str) (len : Nat) : List Str := m.map (combF bl len)
theorem combR_len {bl : List Str} {len : Nat} (hl : ∀ x ∈ bl, x.length = len) : ∀ (row : Str) (j : Nat) (acc : Str), row.length + j ≤ bl.length → acc.length = len → (combR bl row j acc).length = len
  | [], _, _, _, h => h
  | a :: r, j, acc, hj, h => by
    rw [List.length_cons] at hj
    refine combR_len hl r (j + 1) _ (by omega) ?_
    split
    · exact h
    · rw [maddL_length]
      have hlt : j < bl.length := by omega
      rw [List.getD_eq_getElem?_getD, List.getElem?_eq_getElem hlt]
      exact hl _ (List.getElem_mem hlt)
theorem combL_length (m bl : List Str) (len : Nat) : (combL m bl len).length = m.length := by simp [combL]
theorem combL_lens {m bl : List Str} {n len : Nat} (hm : MatR m n) (hb : bl.length = n) (hl : ∀ x ∈ bl, x.length = len) : ∀ x ∈ combL m bl len, x.length = len := fun x hx => by
  obtain ⟨row, hr, rfl⟩ := List.mem_map.1 hx
  exact combR_len hl row 0 _ (by rw [hm.row row hr]; omega) (by simp [zerB])
theorem set_same {α : Type} {l : List α} {i : Nat} {x : α} (h : l[i]? = some x) : l.set i x = l := by
  apply List.ext_getElem?
  intro j
  rw [List.getElem?_set]
  by_cases e : i = j
  · subst e
    rw [if_pos rfl, if_pos (List.getElem?_eq_some_iff.1 h).1, h]
  · rw [if_neg e]
/-- The results when the first i rows are done. -/
def combS (m bl : List Str) (len i : Nat) : List Str := (m.take i).map (combF bl len) ++ List.replicate (m.length - i) (zerB len)
theorem combS_zero (m bl : List Str) (len : Nat) : combS m bl len 0 = List.replicate m.length (zerB len) := by simp [combS]
theorem combS_full (m bl : List Str) (len : Nat) : combS m bl len m.length = combL m bl len := by simp [combS, combL]
theorem combS_get {m bl : List Str} {len i : Nat} (hi : i < m.length) : (combS m bl len i)[i]? = some (zerB len) := by
  unfold combS
  rw [List.getElem?_append_right (by rw [List.length_map, List.length_take]; omega), List.length_map, List.length_take, Nat.min_eq_left (by omega), Nat.sub_self, List.getElem?_replicate, if_pos (by omega)]
theorem combS_set {m bl : List Str} {len i : Nat} (hi : i < m.length) : (combS m bl len i).set i (combF bl len (m.getD i [])) = combS m bl len (i + 1) := by
  have hx : m[i]? = some (m.getD i []) := by rw [List.getD_eq_getElem?_getD, List.getElem?_eq_getElem hi]; rfl
  have hl : ((m.take i).map (combF bl len)).length = i := by rw [List.length_map, List.length_take]; omega
  unfold combS
  rw [List.set_append_right _ _ (by omega), hl, Nat.sub_self, show m.length - i = (m.length - (i + 1)) + 1 by omega, List.replicate_succ, List.set_cons_zero, List.take_add_one, hx, List.map_append, List.append_assoc]; rfl

set_option maxRecDepth 100000 in
set_option maxHeartbeats 4000000 in
theorem combine_ok {s : Bool} (R : Rd) (m bl : List Str) (n len : Nat) (v0 v1 : Value) (hm : MatR m n) (hb : bl.length = n) (hl : ∀ x ∈ bl, x.length = len) (hlen : len ≤ 1000000) (h0 : Bss false R v0 m) (h1 : Bss s R v1 bl) :
    Fn Tryd.prog 91 [v0, v1, .int .i64 len] [] R (fun v h => OwnBss v (combL m bl len) h) := by
  have hml := hm.len
  have hn := hm.col
  have h0' := h0
  have h1' := h1
  obtain ⟨A0, c0, vs0, rfl, _⟩ := h0'
  obtain ⟨A1, c1, vs1, rfl, _⟩ := h1'
  refine fn_of_vc mixed tabOk Tryd.func91 rfl (by kernel_rfl) (Nat.le_of_ble_eq_true rfl) ?_
  refine ⟨[], _, zeros_ok _ m.length len (by omega) (by omega), ?_⟩
  rintro _ _ ⟨g, vs, ids, C, rfl, rfl, hv⟩
  rw [show List.replicate len (0 : UInt8) = zerB len from rfl, ← combS_zero m bl len] at hv
  refine ⟨[none, none, none, none, none, none, none, none, some 8, some 9, some 10, some 11, none, none, none, none, none, none, some 18, some 19, some 20, some 21, some 22, some 23, some 24, some 25, some 26, some 27, some 28, some 29, some 30, some 31, some 32, some 33, some 34, some 35, some 36, some 37, some 38, some 39, some 40, some 41, some 42, some 43, some 44, some 45, some 46, some 47, some 48, some 49], [18], Nat × List Value × List Nat × Rd, fun ⟨i, vs, _, C⟩ => i ≤ m.length ∧ VsR true C vs (combS m bl len i), fun ⟨i, _⟩ => [.int .i64 i],
    fun ⟨_, vs, ids, C⟩ => [.row (some ⟨g, 0, .none⟩) m.length m.length 25 1 vs (0, 0), .ro ids C], fun ⟨i, _⟩ => m.length - i, (0, vs, ids, C), ⟨Nat.zero_le _, hv⟩, ⟨rfl, trivial⟩, Ent.refl _, ?_⟩
  clear hv
  rintro ⟨i, vs, ids, C⟩ ⟨hi, hv⟩ js
  have hi : i ≤ m.length := hi
  have hv : VsR true C vs (combS m bl len i) := hv
  by_cases d : i < m.length
  · repeat (first | (refine ⟨fun h => ?_, fun h => ?_⟩; rotate_left 1; (focus (exfalso; (first | (with_reducible (cases h; done)) | (revert h; simp; done) | (revert h; simp; omega) | (revert h; simp [*]; done)))); clear h) | (refine ⟨fun h => ?_, fun h => ?_⟩; (focus (exfalso; (first | (with_reducible (cases h; done)) | (revert h; simp; done) | (revert h; simp; omega) | (revert h; simp [*]; done)))); clear h))
    obtain ⟨a0, B0, bc0, hA0, hra0, hbr⟩ := h0.at_ d
    have hrl := hm.get d
    refine ⟨by omega, by omega, a0, hA0, ?_⟩
    refine ⟨_, .inl hra0, ?_⟩
    have hset := combS_set (bl := bl) (len := len) d
    have hv0 : VsR true C vs ((combS m bl len i).set i (zerB len)) := by rw [set_same (combS_get d)]; exact hv
    generalize m.getD i [] = row at hrl hbr hset hra0 ⊢
    rw [hrl] at hra0 ⊢
    refine ⟨[none, none, none, none, none, none, none, none, none, none, some 10, some 11, none, none, none, none, none, none, none, none, none, none, none, none, none, some 25, some 26, some 27, some 28, some 29, some 30, some 31, some 32, some 33, some 34, some 35, some 36, some 37, some 38, some 39, some 40, some 41, some 42, some 43, some 44, some 45, some 46, some 47, some 48], [25], Nat × List Value × Str × List Nat × Rd, fun ⟨j, vs, acc, _, C⟩ => j ≤ n ∧ acc.length = len ∧ combR bl (row.drop j) j acc = combF bl len row ∧ VsR true C vs ((combS m bl len i).set i acc), fun ⟨j, _⟩ => [.int .i64 j],
      fun ⟨_, vs, _, ids, C⟩ => [.row (some ⟨g, 0, .none⟩) m.length m.length 25 1 vs (0, 0), .ro ids C], fun ⟨j, _⟩ => n - j, (0, vs, zerB len, ids, C), ⟨Nat.zero_le _, by simp [zerB], rfl, hv0⟩, ⟨rfl, trivial⟩, Ent.refl _, ?_⟩
    clear hv hv0
    rintro ⟨j, vs, acc, ids, C⟩ ⟨hj, hal, hcm, hv⟩ js2
    have hj : j ≤ n := hj
    have hal : acc.length = len := hal
    have hcm : combR bl (row.drop j) j acc = combF bl len row := hcm
    have hv : VsR true C vs ((combS m bl len i).set i acc) := hv
    have hcl : (combS m bl len i).length = m.length := by unfold combS; rw [List.length_append, List.length_map, List.length_take, List.length_replicate]; omega
    have hvl : vs.length = m.length := by rw [hv.1, List.length_set, hcl]
    by_cases d2 : j < n
    · repeat (first | (refine ⟨fun h => ?_, fun h => ?_⟩; rotate_left 1; (focus (exfalso; (first | (with_reducible (cases h; done)) | (revert h; simp; done) | (revert h; simp; omega) | (revert h; simp [*]; done)))); clear h) | (refine ⟨fun h => ?_, fun h => ?_⟩; (focus (exfalso; (first | (with_reducible (cases h; done)) | (revert h; simp; done) | (revert h; simp; omega) | (revert h; simp [*]; done)))); clear h))
      have hbr' := hbr
      obtain ⟨Ar, cr, hAr, _, hrr⟩ := hbr'
      rw [hrl] at hAr
      cases hAr
      obtain ⟨ar, har, hrb⟩ := BsR.one hrr (i := j) (by omega)
      refine ⟨by omega, by omega, ar, har, ?_⟩
      refine ⟨_, .inl hrb, ?_⟩
      have hdrop : row.drop j = row.getD j 0 :: row.drop (j + 1) := by
        rw [List.drop_eq_getElem_cons (by omega), List.getD_eq_getElem?_getD, List.getElem?_eq_getElem (by omega)]; rfl
      rw [hdrop] at hcm
      clear hdrop hrb
      generalize row.getD j 0 = a at hcm ⊢
      have hcm : combR bl (row.drop (j + 1)) (j + 1) (if a = 0 then acc else maddL acc (bl.getD j []) a) = combF bl len row := hcm
      by_cases ha : a = 0
      · have ha2 := u8_zero.2 ha
        rw [if_pos ha] at hcm
        repeat (first | (refine ⟨fun h => ?_, fun h => ?_⟩; rotate_left 1; (focus (exfalso; (first | (with_reducible (cases h; done)) | (revert h; simp; done) | (revert h; simp; omega) | (revert h; simp [*]; done)))); clear h) | (refine ⟨fun h => ?_, fun h => ?_⟩; (focus (exfalso; (first | (with_reducible (cases h; done)) | (revert h; simp; done) | (revert h; simp; omega) | (revert h; simp [*]; done)))); clear h))
        (intro z hz; obtain rfl : z = ((j + 1 : Nat) : Int) := (by first | (rw [IntKind.wrap_i64] at hz; omega) | (rw [IntKind.wrap_u64] at hz; omega) | omega); clear hz)
        exact ⟨rfl, (j + 1, vs, acc, ids, C), ⟨d2, hal, hcm, hv⟩, by show n - (j + 1) < n - j; omega, ⟨rfl, trivial⟩, Ent.refl _, rfl⟩
      · have ha2 : ¬ (a.toNat : Int) = 0 := fun h => ha (u8_zero.1 h)
        rw [if_neg ha] at hcm
        repeat (first | (refine ⟨fun h => ?_, fun h => ?_⟩; rotate_left 1; (focus (exfalso; (first | (with_reducible (cases h; done)) | (revert h; simp; done) | (revert h; simp; omega) | (revert h; simp [*]; done)))); clear h) | (refine ⟨fun h => ?_, fun h => ?_⟩; (focus (exfalso; (first | (with_reducible (cases h; done)) | (revert h; simp; done) | (revert h; simp; omega) | (revert h; simp [*]; done)))); clear h))
        obtain ⟨u, hu, hbu⟩ := hv.2 i acc (by rw [List.getElem?_set, if_pos rfl, if_pos (by omega)])
        obtain ⟨a1, B1, bc1, hA1, hra1, hb1⟩ := h1.at_ (i := j) (by omega)
        have hbl : (bl.getD j []).length = len := by
          rw [List.getD_eq_getElem?_getD, List.getElem?_eq_getElem (by omega)]
          exact hl _ (List.getElem_mem _)
        generalize bl.getD j [] = blk at hcm hra1 hb1 hbl
        refine ⟨[], (.q 0 (.q 1 (.q 2 (.q 3 (.q 4 (.q 6 (.q 7 (.q 8 (.q 9 (.q 10 (.one 5 (.one 11 (.q 12 (.q 13 (.q 14 (.q 15 (.one 16 .nil))))))))))))))))), by kernel_rfl, ?_⟩
        refine ⟨by omega, by omega, _, rfl, ?_⟩
        refine ⟨by omega, by omega, a1, hA1, ?_⟩
        refine ⟨_, .inl hra1, ?_⟩
        refine ⟨u, ldr1 0 rfl hu, ?_⟩
        refine ⟨[], _, MulAdd_ok _ acc blk a u _ (by omega) (by omega) (hbu.weak.mono (ro_rh 1 rfl)) ((hb1.weak.rh _).rh _), ?_⟩
        rintro _ _ ⟨g2, rfl, rfl⟩
        refine ⟨by omega, by omega, _, rfl, ?_⟩
        refine ⟨rfl, rfl, 0, nthK_mk rfl (strow (by omega) ?_)⟩
        (intro z hz; obtain rfl : z = ((j + 1 : Nat) : Int) := (by first | (rw [IntKind.wrap_i64] at hz; omega) | (rw [IntKind.wrap_u64] at hz; omega) | omega); clear hz)
        refine ⟨rfl, (j + 1, vs.set i (.slice (some ⟨g2, 0, .none⟩) blk.length blk.length), maddL acc blk a, idsOf [.ro ids C, .row (some ⟨g2, 0, .none⟩) blk.length blk.length 5 1 (BV (maddL acc blk a)) (0, 0)], cellsOf [.ro ids C, .row (some ⟨g2, 0, .none⟩) blk.length blk.length 5 1 (BV (maddL acc blk a)) (0, 0)]), ⟨d2, by rw [maddL_length]; exact hbl, hcm, ?_⟩, by show n - (j + 1) < n - j; omega, ⟨rfl, trivial⟩, ?_, rfl⟩
        · have hb : BsR (RH noC [.ro ids C, .row (some ⟨g2, 0, .none⟩) blk.length blk.length 5 1 (BV (maddL acc blk a)) (0, 0)]) (.slice (some ⟨g2, 0, .none⟩) blk.length blk.length) (maddL acc blk a) := BsR.own 1 rfl (by rw [maddL_length]) rfl (.inr ⟨g2, rfl⟩)
          have hb2 : BsX true (cellsOf [.ro ids C, .row (some ⟨g2, 0, .none⟩) blk.length blk.length 5 1 (BV (maddL acc blk a)) (0, 0)]) (.slice (some ⟨g2, 0, .none⟩) blk.length blk.length) (maddL acc blk a)   := ⟨_, blk.length, by rw [maddL_length], fun _ => by rw [maddL_length]; exact Nat.le_refl _, SlR.mono hb fun _ _ => cells_rh⟩
          have := (hv.mono (ro_in (h := [.ro ids C, .row (some ⟨g2, 0, .none⟩) blk.length blk.length 5 1 (BV (maddL acc blk a)) (0, 0)]) 0 rfl)).set hb2 i
          rwa [List.set_set] at this
        · exact Ent.freeze [.row (some ⟨g, 0, .none⟩) m.length m.length 25 1 (vs.set i (.slice (some ⟨g2, 0, .none⟩) blk.length blk.length)) (0, 0)] [.ro ids C, .row (some ⟨g2, 0, .none⟩) blk.length blk.length 5 1 (BV (maddL acc blk a)) (0, 0)]
    · repeat (first | (refine ⟨fun h => ?_, fun h => ?_⟩; rotate_left 1; (focus (exfalso; (first | (with_reducible (cases h; done)) | (revert h; simp; done) | (revert h; simp; omega) | (revert h; simp [*]; done)))); clear h) | (refine ⟨fun h => ?_, fun h => ?_⟩; (focus (exfalso; (first | (with_reducible (cases h; done)) | (revert h; simp; done) | (revert h; simp; omega) | (revert h; simp [*]; done)))); clear h))
      obtain rfl : j = n := by omega
      rw [List.drop_of_length_le (by omega)] at hcm
      have hcm : acc = combF bl len row := hcm
      rw [hcm, hset] at hv
      (intro z hz; obtain rfl : z = ((i + 1 : Nat) : Int) := (by first | (rw [IntKind.wrap_i64] at hz; omega) | (rw [IntKind.wrap_u64] at hz; omega) | omega); clear hz)
      exact ⟨rfl, (i + 1, vs, ids, C), ⟨d, hv⟩, by show m.length - (i + 1) < m.length - i; omega, ⟨rfl, trivial⟩, Ent.refl _, rfl⟩
  · repeat (first | (refine ⟨fun h => ?_, fun h => ?_⟩; rotate_left 1; (focus (exfalso; (first | (with_reducible (cases h; done)) | (revert h; simp; done) | (revert h; simp; omega) | (revert h; simp [*]; done)))); clear h) | (refine ⟨fun h => ?_, fun h => ?_⟩; (focus (exfalso; (first | (with_reducible (cases h; done)) | (revert h; simp; done) | (revert h; simp; omega) | (revert h; simp [*]; done)))); clear h))
    obtain rfl : i = m.length := by omega
    rw [combS_full] at hv
    refine ⟨_, Ent.freeze [] [.row (some ⟨g, 0, .none⟩) m.length m.length 25 1 vs (0, 0), .ro ids C], _, _, rfl, ?_⟩
    have hb := Bss.own (R := noC) (h := [.row (some ⟨g, 0, .none⟩) m.length m.length 25 1 vs (0, 0), .ro ids C]) 0 rfl (.inr ⟨g, rfl⟩) (combL_length m bl len).symm (hv.mono (ro_rh 1 rfl))
    exact hb.mono fun _ _ => cells_rh
set_option maxRecDepth 100000 in
set_option maxHeartbeats 4000000 in
theorem Apply_ok {s : Bool} (R : Rd) (m bl : List Str) (n len : Nat) (v0 v1 : Value) (hm : MatR m n) (hn1 : 1 ≤ n) (hb : bl.length = n) (hl : ∀ x ∈ bl, x.length = len) (hlen : len ≤ 1000000) (h0 : Bss false R v0 m) (h1 : Bss s R v1 bl) :
    Fn Tryd.prog 77 [v0, v1] [] R (fun v h => ∃ u, v = .tuple ⟨[u, .int .i64 0]⟩ ∧ OwnBss u (combL m bl len) h) := by
  have hml := hm.len
  have hn := hm.col
  have hm0 := hm.get hm.pos
  have h0' := h0
  have h1' := h1
  obtain ⟨A0, c0, vs0, rfl, _⟩ := h0'
  obtain ⟨A1, c1, vs1, rfl, _⟩ := h1'
  have hlg : ∀ i, i < bl.length → (bl.getD i []).length = len := fun i hi => by
    rw [List.getD_eq_getElem?_getD, List.getElem?_eq_getElem hi]
    exact hl _ (List.getElem_mem _)
  obtain ⟨a0, B0, bc0, hA0, hra0, _⟩ := h1.at_ (i := 0) (by omega)
  rw [hlg 0 (by omega)] at hra0
  refine fn_of_vc mixed tabOk Tryd.func77 rfl (by kernel_rfl) (Nat.le_of_ble_eq_true rfl) ?_
  refine ⟨[], _, MValid_ok _ m n _ hm (h0.rh _), ?_⟩
  rintro _ _ ⟨rfl, rfl⟩
  repeat (first | (refine ⟨fun h => ?_, fun h => ?_⟩; rotate_left 1; (focus (exfalso; (first | (with_reducible (cases h; done)) | (revert h; simp; done) | (revert h; simp; omega) | (revert h; simp [*]; done)))); clear h) | (refine ⟨fun h => ?_, fun h => ?_⟩; (focus (exfalso; (first | (with_reducible (cases h; done)) | (revert h; simp; done) | (revert h; simp; omega) | (revert h; simp [*]; done)))); clear h))
  refine ⟨[], _, columns_ok _ m _ (h0.rh _), ?_⟩
  rw [hm0]
  rintro _ _ ⟨rfl, rfl⟩
  repeat (first | (refine ⟨fun h => ?_, fun h => ?_⟩; rotate_left 1; (focus (exfalso; (first | (with_reducible (cases h; done)) | (revert h; simp; done) | (revert h; simp; omega) | (revert h; simp [*]; done)))); clear h) | (refine ⟨fun h => ?_, fun h => ?_⟩; (focus (exfalso; (first | (with_reducible (cases h; done)) | (revert h; simp; done) | (revert h; simp; omega) | (revert h; simp [*]; done)))); clear h))
  refine ⟨[none, none, none, none, some 4, some 5, none, some 7, none, none, none, none, none, none, none, none, none, none, none, none, some 20, some 21, some 22, some 23, some 24, some 25, some 26, some 27, some 28, some 29, some 30, some 31], [20], Nat, fun k => k ≤ bl.length, fun k => [.int .i64 k], fun _ => [], fun k => bl.length - k, 0, Nat.zero_le _, ⟨rfl, trivial⟩, Ent.refl _, ?_⟩
  intro k hk js
  have hk : k ≤ bl.length := hk
  by_cases d : k < bl.length
  · repeat (first | (refine ⟨fun h => ?_, fun h => ?_⟩; rotate_left 1; (focus (exfalso; (first | (with_reducible (cases h; done)) | (revert h; simp; done) | (revert h; simp; omega) | (revert h; simp [*]; done)))); clear h) | (refine ⟨fun h => ?_, fun h => ?_⟩; (focus (exfalso; (first | (with_reducible (cases h; done)) | (revert h; simp; done) | (revert h; simp; omega) | (revert h; simp [*]; done)))); clear h))
    obtain ⟨a, B, bc, hA, hra, hbk⟩ := h1.at_ d
    rw [hlg k d] at hra
    clear hbk
    refine ⟨by omega, by omega, a, hA, ?_⟩
    refine ⟨_, .inl hra, ?_⟩
    refine ⟨by omega, by omega, a0, hA0, ?_⟩
    refine ⟨_, .inl hra0, ?_⟩
    repeat (first | (refine ⟨fun h => ?_, fun h => ?_⟩; rotate_left 1; (focus (exfalso; (first | (with_reducible (cases h; done)) | (revert h; simp; done) | (revert h; simp; omega) | (revert h; simp [*]; done)))); clear h) | (refine ⟨fun h => ?_, fun h => ?_⟩; (focus (exfalso; (first | (with_reducible (cases h; done)) | (revert h; simp; done) | (revert h; simp; omega) | (revert h; simp [*]; done)))); clear h))
    (intro z hz; obtain rfl : z = ((k + 1 : Nat) : Int) := (by first | (rw [IntKind.wrap_i64] at hz; omega) | (rw [IntKind.wrap_u64] at hz; omega) | omega); clear hz)
    exact ⟨rfl, k + 1, d, by show bl.length - (k + 1) < bl.length - k; omega, ⟨rfl, trivial⟩, Ent.refl _, rfl⟩
  · repeat (first | (refine ⟨fun h => ?_, fun h => ?_⟩; rotate_left 1; (focus (exfalso; (first | (with_reducible (cases h; done)) | (revert h; simp; done) | (revert h; simp; omega) | (revert h; simp [*]; done)))); clear h) | (refine ⟨fun h => ?_, fun h => ?_⟩; (focus (exfalso; (first | (with_reducible (cases h; done)) | (revert h; simp; done) | (revert h; simp; omega) | (revert h; simp [*]; done)))); clear h))
    refine ⟨[], _, columns_ok _ bl _ (h1.rh _), ?_⟩
    rw [hlg 0 (by omega)]
    rintro _ _ ⟨rfl, rfl⟩
    refine ⟨[], _, combine_ok _ m bl n len _ _ hm hb hl hlen (h0.rh _) (h1.rh _), ?_⟩
    rintro v h ho
    exact ⟨_, Ent.refl _, v, rfl, ho⟩

end Go.Proofs.YtgnmbgbiajgpeaaDoor
