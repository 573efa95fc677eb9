/-
  Top: the contract of reedsolomon.Encode.
-/
import Derived.Test.YtgnmbgbiajgpeaaDoorToe
namespace Go.Proofs.YtgnmbgbiajgpeaaDoor
open Go Go.RowKit
set_option linter.unusedVariables false
set_option linter.unusedSimpArgs false

set_option maxRecDepth 100000 in
theorem CloneYY_ok {s : Bool} (R : Rd) (l : List Str) (v : Value) (h1 : 1 ≤ l.length) (hl : l.length ≤ 1000) (hs : Bss s R v l) : Fn Tryd.prog 76 [v] [] R
    (fun v h => ∃ A cap vs, v = .slice A l.length cap ∧ h = [.row A l.length cap 25 1 vs (0, 0)] ∧ grow l.length A ∧ VsR s R vs l) := by
  have hML := maxLen_eq
  obtain ⟨a, _, _, hA, _⟩ := (show ∃ a B bc, (∃ A n cap, v = .slice A n cap ∧ A = some a) ∧ B = (0 : Nat) ∧ bc = 0 from by
    have hs' := hs
    obtain ⟨A, cap, vs, rfl, _⟩ := hs'
    obtain ⟨a, B, bc, hA, _⟩ := hs.at_ (i := 0) (by omega)
    exact ⟨a, 0, 0, ⟨A, _, _, rfl, hA⟩, rfl, rfl⟩)
  obtain ⟨A, cap, vs, rfl, hsr, hv⟩ := hs
  obtain ⟨_, _, _, e, rfl⟩ := hA
  cases e
  refine fn_of_vc mixed tabOk Tryd.func76 rfl (by kernel_rfl) (Nat.le_of_ble_eq_true rfl) ?_
  repeat (first | (refine ⟨fun h => ?_, fun h => ?_⟩; rotate_left 1; (focus (exfalso; (first | (with_reducible (cases h; done)) | (revert h; simp; done) | (revert h; simp; omega) | (revert h; simp [*]; done)))); clear h) | (refine ⟨fun h => ?_, fun h => ?_⟩; (focus (exfalso; (first | (with_reducible (cases h; done)) | (revert h; simp; done) | (revert h; simp; omega) | (revert h; simp [*]; done)))); clear h))
  refine ⟨rfl, fun g => ?_⟩
  refine ⟨vs, hsr.1, ?_, hv.one_, by show (_ + _) * 24 ≤ _; omega, by omega, .inr ⟨0, rfl, rfl, rfl, rfl, rfl, rfl, fun A' cap' hg' => ?_⟩⟩
  · obtain ⟨_, A2, c2, e2, hr⟩ := hsr
    cases e2
    intro j u hu
    obtain ⟨b, hb, hR⟩ := hr j u hu
    exact ⟨b, hb, .inl hR⟩
  rw [Nat.zero_add] at hg' ⊢
  exact ⟨_, Ent.refl _, A', cap', vs, rfl, rfl, hg', hv⟩

theorem srcS {R : Rd} {sz n cap : Nat} {A : Option Addr} {xs : List Value} (h : SlR R sz (.slice A n cap) n xs) : ∀ j u, xs[j]? = some u → ∃ a, A = some a ∧ R (a.add j) u := by
  obtain ⟨_, A', cap', e, hr⟩ := h
  cases e
  exact hr
/-- Missing blocks are zero. -/
def padL (bl : List Str) (data len : Nat) : List Str := bl ++ List.replicate (data - bl.length) (zerB len)
def rsE (data total : Nat) (bl : List Str) (len : Nat) : List Str := combL (rowsT data total) (padL bl data len) len
theorem rsE_length (data total : Nat) (bl : List Str) (len : Nat) : (rsE data total bl len).length = total := by
  unfold rsE; rw [combL_length, rowsT_length]
def orR (R C : Rd) : Rd := fun a v => R a v ∨ C a v
set_option maxRecDepth 100000 in
set_option maxHeartbeats 8000000 in
theorem REncode_ok {s : Bool} (R : Rd) (data total len : Nat) (bl : List Str) (v : Value) (h1 : 1 ≤ data) (h8 : data ≤ 8) (hdt : data ≤ total) (h16 : total ≤ 16) (hb1 : 1 ≤ bl.length) (hb2 : bl.length ≤ data) (hB : BlkR bl len) (hs : Bss s R v bl) :
    Fn Tryd.prog 58 [.int .i64 data, .int .i64 total, v] [] R (fun v h => ∃ u, v = .tuple ⟨[u, .int .i64 0]⟩ ∧ OwnBss u (rsE data total bl len) h) := by
  have hML := maxLen_eq
  have hl1 := hB.l1
  have hl2 := hB.l2
  have hs' := hs
  have hbn : ¬ bl = [] := by rintro rfl; exact absurd hb1 (by decide)
  obtain ⟨A0, c0, vs0, rfl, _⟩ := hs'
  obtain ⟨a0, B0, bc0, hA0, hra0, _⟩ := hs.at_ (i := 0) (by omega)
  rw [hB.get (by omega)] at hra0
  refine fn_of_vc mixed tabOk Tryd.func58 rfl (by kernel_rfl) (Nat.le_of_ble_eq_true rfl) ?_
  refine ⟨[], _, RValid_ok _ data total, ?_⟩
  rintro _ _ ⟨rfl, rfl⟩
  rw [decide_eq_true (show (1 : Int) ≤ data ∧ (data : Int) ≤ 8 ∧ (data : Int) ≤ total ∧ (total : Int) ≤ 16 by omega)]
  repeat (first | (refine ⟨fun h => ?_, fun h => ?_⟩; rotate_left 1; (focus (exfalso; (first | (with_reducible (cases h; done)) | (revert h; simp; done) | (revert h; simp; omega) | (revert h; simp [*]; done)))); clear h) | (refine ⟨fun h => ?_, fun h => ?_⟩; (focus (exfalso; (first | (with_reducible (cases h; done)) | (revert h; simp; done) | (revert h; simp; omega) | (revert h; simp [*]; done)))); clear h))
  refine ⟨[], _, oneLength_ok _ bl len _ hB (by omega) (hs.rh _), ?_⟩
  rintro _ _ ⟨rfl, rfl⟩
  repeat (first | (refine ⟨fun h => ?_, fun h => ?_⟩; rotate_left 1; (focus (exfalso; (first | (with_reducible (cases h; done)) | (revert h; simp; done) | (revert h; simp; omega) | (revert h; simp [*]; done)))); clear h) | (refine ⟨fun h => ?_, fun h => ?_⟩; (focus (exfalso; (first | (with_reducible (cases h; done)) | (revert h; simp; done) | (revert h; simp; omega) | (revert h; simp [*]; done)))); clear h))
  refine ⟨[], _, CloneYY_ok _ bl _ hb1 (by omega) (hs.rh _), ?_⟩
  rintro _ _ ⟨A, cap, vs, rfl, rfl, hg, hv⟩
  refine ⟨[none, none, none, none, none, none, none, none, some 8, none, none, none, none, none, none, none, none, none, none, none, none, none, none, none, none, none, none, none, none, none, none, none, none, some 33, some 34, some 35, some 36, some 37, some 38, some 39, some 40, some 41, some 42, some 43, some 44], [8], Nat × Option Addr × Nat × List Value × List Nat × Rd, fun ⟨k, A, _, vs, _, C⟩ => bl.length + k ≤ data ∧ grow (bl.length + k) A ∧ VsR false (orR R C) vs (bl ++ List.replicate k (zerB len)), fun ⟨k, A, cap, _⟩ => [.slice A (bl.length + k) cap],
    fun ⟨k, A, cap, vs, ids, C⟩ => [.row A (bl.length + k) cap 25 1 vs (0, 0), .ro ids C], fun ⟨k, _⟩ => data - k, (0, A, cap, vs, [], noC), ⟨hb2, hg, ?_⟩, ⟨rfl, trivial⟩, Ent.ro0 _, ?_⟩
  · rw [List.replicate_zero, List.append_nil]
    exact ⟨hv.1, fun i x hx => by obtain ⟨u, hu, hb⟩ := hv.2 i x hx; exact ⟨u, hu, hb.weak.mono fun a v h => .inl (h.elim id fun ⟨_, hm, _⟩ => by cases hm)⟩⟩
  clear hg hv
  rintro ⟨k, A, cap, vs, ids, C⟩ ⟨hk, hg, hv⟩ js
  have hk : bl.length + k ≤ data := hk
  have hg : grow (bl.length + k) A := hg
  have hv : VsR false (orR R C) vs (bl ++ List.replicate k (zerB len)) := hv
  by_cases d : bl.length + k < data
  · repeat (first | (refine ⟨fun h => ?_, fun h => ?_⟩; rotate_left 1; (focus (exfalso; (first | (with_reducible (cases h; done)) | (revert h; simp; done) | (revert h; simp; omega) | (revert h; simp [*]; done)))); clear h) | (refine ⟨fun h => ?_, fun h => ?_⟩; (focus (exfalso; (first | (with_reducible (cases h; done)) | (revert h; simp; done) | (revert h; simp; omega) | (revert h; simp [*]; done)))); clear h))
    refine ⟨by omega, by omega, a0, hA0, ?_⟩
    refine ⟨_, .inl hra0, ?_⟩
    refine ⟨by omega, by omega, by show (1 : Int) * _ ≤ _; omega, by omega, fun g2 => ?_⟩
    refine ⟨rfl, fun g3 => ?_⟩
    refine ⟨[.slice (some ⟨g2, 0, .none⟩) len len], rfl, srcS (SlR.own 3 rfl rfl (.inr ⟨g3, rfl⟩)), rfl, by show (_ + 1) * 24 ≤ _; omega, by omega, .inr ⟨0, rfl, rfl, rfl, rfl, rfl, rfl, fun A' cap' hg' => ?_⟩⟩
    obtain ⟨b, hb⟩ : ∃ b : Hp, b = [.ro ids C, .row (some ⟨g2, 0, .none⟩) len len 5 1 (repl [.int .u8 0] len) (0, 0), .row (some ⟨g3, 0, .none⟩) 1 1 25 1 [.slice (some ⟨g2, 0, .none⟩) len len] (0, 0)] := ⟨_, rfl⟩
    refine ⟨rfl, (k + 1, A', cap', vs ++ [.slice (some ⟨g2, 0, .none⟩) len len], idsOf b, cellsOf b), ⟨d, hg', ?_⟩, by show data - (k + 1) < data - k; omega, ⟨rfl, trivial⟩, ?_, rfl⟩
    · rw [List.replicate_succ', ← List.append_assoc]
      refine VsR.snoc (hv.mono fun a v h => h.imp id (ro_in 0 (by rw [hb]; rfl) a v)) ?_
      have hq : BsR (RH noC b) (.slice (some ⟨g2, 0, .none⟩) len len) (zerB len) := BsR.own 1 (by rw [hb]; rfl) (by unfold zerB; rw [List.length_replicate]) (by rw [repl1]; simp [BV, zerB]) (.inr ⟨g2, rfl⟩)
      exact ⟨_, len, by unfold zerB; rw [List.length_replicate], (fun h => by cases h), SlR.mono hq fun _ _ h => .inr (cells_rh h)⟩
    · rw [hb]
      exact Ent.freeze [.row A' (bl.length + k + 1) cap' 25 1 (vs ++ [.slice (some ⟨g2, 0, .none⟩) len len]) (0, 0)] _
  · repeat (first | (refine ⟨fun h => ?_, fun h => ?_⟩; rotate_left 1; (focus (exfalso; (first | (with_reducible (cases h; done)) | (revert h; simp; done) | (revert h; simp; omega) | (revert h; simp [*]; done)))); clear h) | (refine ⟨fun h => ?_, fun h => ?_⟩; (focus (exfalso; (first | (with_reducible (cases h; done)) | (revert h; simp; done) | (revert h; simp; omega) | (revert h; simp [*]; done)))); clear h))
    have hkd : bl.length + k = data := by omega
    have hpad : bl ++ List.replicate k (zerB len) = padL bl data len := by unfold padL; rw [show data - bl.length = k by omega]
    rw [hpad] at hv
    rw [hkd] at hg ⊢
    have hpl : (padL bl data len).length = data := by unfold padL; rw [List.length_append, List.length_replicate]; omega
    have hpa : ∀ x ∈ padL bl data len, x.length = len := fun x hx => by
      rcases List.mem_append.1 hx with hx | hx
      · exact hB.all x hx
      · rw [(List.mem_replicate.1 hx).2]; unfold zerB; rw [List.length_replicate]
    refine ⟨[none, none, none, none, none, none, none, none, none, some 9, some 10, none, none, none, none, none, none, none, none, none, none, none, none, none, none, none, none, none, none, none, none, none, none, none, none, none, none, none, none, none, none, none, none, none, none, none, some 46, some 47, some 48, some 49, some 50, some 51, some 52, some 53], [9, 46], Nat × Option Addr × Nat, fun ⟨k, B, _⟩ => k ≤ total ∧ grow k B, fun ⟨k, B, bc⟩ => [.slice B k bc, .int .i64 k],
      fun ⟨k, B, bc⟩ => [.row A data cap 25 1 vs (0, 0), .ro ids C, .row B k bc 3 1 (intV k) (0, 0)], fun ⟨k, _⟩ => total - k, (0, none, 0), ⟨Nat.zero_le _, .inl rfl⟩, ⟨rfl, rfl, trivial⟩, ?_, ?_⟩
    · show Ent [.row A (bl.length + k) cap 25 1 vs (0, 0), .ro ids C] ([.row A data cap 25 1 vs (0, 0), .ro ids C] ++ [.row .none 0 0 3 1 [] (0, 0)])
      rw [hkd]
      exact Ent.nilrow _ _ _
    rintro ⟨q, B, bc⟩ ⟨hq, hgB⟩ js2
    have hq : q ≤ total := hq
    have hgB : grow q B := hgB
    by_cases d2 : q < total
    · repeat (first | (refine ⟨fun h => ?_, fun h => ?_⟩; rotate_left 1; (focus (exfalso; (first | (with_reducible (cases h; done)) | (revert h; simp; done) | (revert h; simp; omega) | (revert h; simp [*]; done)))); clear h) | (refine ⟨fun h => ?_, fun h => ?_⟩; (focus (exfalso; (first | (with_reducible (cases h; done)) | (revert h; simp; done) | (revert h; simp; omega) | (revert h; simp [*]; done)))); clear h))
      refine ⟨rfl, fun g2 => ?_⟩
      refine ⟨[.int .i64 ((q : Nat) : Int)], rfl, srcS (SlR.own 3 rfl rfl (.inr ⟨g2, rfl⟩)), rfl, by show (_ + 1) * 8 ≤ _; omega, by omega, .inr ⟨2, rfl, rfl, rfl, rfl, rfl, rfl, fun B' bc' hg' => ?_⟩⟩
      (intro z hz; obtain rfl : z = ((q + 1 : Nat) : Int) := (by first | (rw [IntKind.wrap_i64] at hz; omega) | (rw [IntKind.wrap_u64] at hz; omega) | omega); clear hz)
      refine ⟨rfl, (q + 1, B', bc'), ⟨d2, hg'⟩, by show total - (q + 1) < total - q; omega, ⟨rfl, rfl, trivial⟩, ?_, rfl⟩
      show Ent _ [.row A data cap 25 1 vs (0, 0), .ro ids C, .row B' (q + 1) bc' 3 1 (intV (q + 1)) (0, 0)]
      rw [intV_succ]
      exact Ent.pick [0, 0, 0] rfl
    · repeat (first | (refine ⟨fun h => ?_, fun h => ?_⟩; rotate_left 1; (focus (exfalso; (first | (with_reducible (cases h; done)) | (revert h; simp; done) | (revert h; simp; omega) | (revert h; simp [*]; done)))); clear h) | (refine ⟨fun h => ?_, fun h => ?_⟩; (focus (exfalso; (first | (with_reducible (cases h; done)) | (revert h; simp; done) | (revert h; simp; omega) | (revert h; simp [*]; done)))); clear h))
      obtain rfl : q = total := by omega
      refine ⟨[], _, newTable_ok _ data h8, ?_⟩
      rintro _ _ ⟨g, rfl, rfl⟩
      refine ⟨[], _, of_ok _ g data q _ h8 h16 (fun j u hu => ld 3 rfl hu) (SlR.own 2 rfl (by rw [intV_length, Nat.mul_one]) hgB), ?_⟩
      rintro mv _ ⟨ids2, C2, rfl, hm⟩
      have hm' := hm
      obtain ⟨Am, cm, vsm, rfl, _⟩ := hm'
      refine ⟨[], _, Apply_ok _ (rowsT data q) (padL bl data len) data len _ _ (rowsT_mat h8 (by omega) h16) h1 hpl hpa (by omega) (hm.mono (ro_rh 4 rfl)) (Bss.own (s := false) 0 rfl hg hpl.symm (hv.mono fun a v h => h.elim .inl (ro_rh 1 rfl a v))), ?_⟩
      rintro _ _ ⟨u, rfl, ids3, C3, rfl, hu⟩
      exact ⟨_, Ent.pick [5] rfl, u, rfl, ids3, C3, rfl, hu⟩

end Go.Proofs.YtgnmbgbiajgpeaaDoor
