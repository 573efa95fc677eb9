/-
  Top: the contract of reedsolomon.Encode.
-/
import Derived.Test.YtgnmbgbiajgpeaaDoorTod
namespace Go.Proofs.YtgnmbgbiajgpeaaDoor
open Go Go.RowKit
set_option linter.unusedVariables false
set_option linter.unusedSimpArgs false

def rowT (data i : Nat) : Str := ((tbl data 16 0).drop (i * 8)).take data
def rowsT (data total : Nat) : List Str := (List.range total).map (rowT data)
theorem rowT_length {data i : Nat} (hd : data ≤ 8) (hi : i < 16) : (rowT data i).length = data := by
  unfold rowT
  rw [List.length_take, List.length_drop, tbl_length]; omega
theorem rowsT_mat {data total : Nat} (hd : data ≤ 8) (h1 : 1 ≤ total) (ht : total ≤ 16) : MatR (rowsT data total) data :=
  ⟨by simp [rowsT]; omega, by simp [rowsT]; omega, by omega, fun x hx => by
    obtain ⟨i, hi, rfl⟩ := List.mem_map.1 hx
    exact rowT_length hd (by have := List.mem_range.1 hi; omega)⟩
theorem rowsT_succ (data k : Nat) : rowsT data (k + 1) = rowsT data k ++ [rowT data k] := by simp [rowsT, List.range_succ]
theorem rowsT_length (data k : Nat) : (rowsT data k).length = k := by simp [rowsT]
def intV (n : Nat) : List Value := (List.range n).map fun i => .int .i64 ((i : Nat) : Int)
theorem intV_length (n : Nat) : (intV n).length = n := by simp [intV]
theorem intV_get {n i : Nat} (h : i < n) : (intV n)[i]? = some (.int .i64 ((i : Nat) : Int)) := by simp [intV, h]
theorem intV_succ (n : Nat) : intV (n + 1) = intV n ++ [.int .i64 ((n : Nat) : Int)] := by simp [intV, List.range_succ]
theorem addr_tab {g i j : Nat} : (((addA (addA (⟨g, 0, .none⟩ : Addr) 1) (Int.toNat (i : Int) * 8)).add (0 * 1)).add j) = ⟨g, 1 + i * 8 + j, .none⟩ := by
  rw [addA_mk, addA_mk, Int.toNat_natCast, addA_eq, addA_eq, Nat.zero_mul]
  show addA (⟨g, 0 + 1 + i * 8, .none⟩ : Addr) j = _
  rw [addA_mk, Nat.zero_add]
set_option maxRecDepth 100000 in
set_option maxHeartbeats 4000000 in
theorem of_ok (R : Rd) (g data total : Nat) (v1 : Value) (hd : data ≤ 8) (ht : total ≤ 16) (hT : ∀ j u, (tabC data (tbl data 16 0))[j]? = some u → R ⟨g, j, .none⟩ u) (hs : SlR R 1 v1 total (intV total)) :
    Fn Tryd.prog 79 [.pointer (some ⟨g, 0, .none⟩), v1] [] R (fun v h => ∃ ids C, h = [.ro ids C] ∧ Bss false C v (rowsT data total)) := by
  have hML := maxLen_eq
  obtain ⟨_, A, cap, rfl, hr⟩ := hs
  refine fn_of_vc mixed tabOk Tryd.func79 rfl (by kernel_rfl) (Nat.le_of_ble_eq_true rfl) ?_
  refine ⟨by omega, by omega, by show (24 : Int) * _ ≤ _; omega, by omega, fun g0 => ?_⟩
  refine ⟨[none, none, none, none, none, none, some 6, some 7, none, none, none, none, none, some 13, some 14, some 15, some 16, some 17, some 18, some 19, some 20, some 21, some 22, some 23, some 24, some 25, some 26, some 27, some 28, some 29, some 30, some 31, some 32, some 33], [13], Nat × List Value × List Nat × Rd, fun ⟨k, vs, _, C⟩ => k ≤ total ∧ VsR false C vs (rowsT data k), fun ⟨k, _⟩ => [.int .i64 k],
    fun ⟨k, vs, ids, C⟩ => [.row (some ⟨g0, 0, .none⟩) total total 25 1 (vs ++ List.replicate (total - k) nilS) (0, 0), .ro ids C], fun ⟨k, _⟩ => total - k, (0, [], [], noC), ⟨Nat.zero_le _, VsR.nil _ _⟩, ⟨rfl, trivial⟩, ?_, ?_⟩
  · show Ent [.row (some ⟨g0, 0, .none⟩) total total 25 1 (repl [nilS] total) (0, 0)] ([.row (some ⟨g0, 0, .none⟩) total total 25 1 (List.replicate total nilS) (0, 0)] ++ [.ro [] noC])
    rw [repl1]
    exact Ent.ro0 _
  rintro ⟨k, vs, ids, C⟩ ⟨hk, hv⟩ js
  have hk : k ≤ total := hk
  have hv : VsR false C vs (rowsT data k) := hv
  have hvl : vs.length = k := by rw [hv.1, rowsT_length]
  by_cases d : k < total
  · repeat (first | (refine ⟨fun h => ?_, fun h => ?_⟩; rotate_left 1; (focus (exfalso; (first | (with_reducible (cases h; done)) | (revert h; simp; done) | (revert h; simp; omega) | (revert h; simp [*]; done)))); clear h) | (refine ⟨fun h => ?_, fun h => ?_⟩; (focus (exfalso; (first | (with_reducible (cases h; done)) | (revert h; simp; done) | (revert h; simp; omega) | (revert h; simp [*]; done)))); clear h))
    obtain ⟨a, rfl, hra⟩ := hr k _ (intV_get d)
    have hra2 : R (addA a (Int.toNat (k : Int) * 1)) (.int .i64 ((k : Nat) : Int)) := by rw [toNat1, ← addA_eq]; exact hra
    refine ⟨by omega, by omega, a, rfl, ?_⟩
    refine ⟨_, .inl hra2, ?_⟩
    refine ⟨[], (.q 0 (.q 1 (.q 3 (.q 4 (.q 5 (.q 6 (.q 7 (.q 8 (.q 9 (.q 10 (.q 11 (.q 12 (.one 2 (.one 13 (.q 14 (.fin 15)))))))))))))))), by kernel_rfl, ?_⟩
    refine ⟨by omega, by omega, ?_⟩
    refine ⟨_, .inl (hT 0 _ rfl), ?_⟩
    refine ⟨0, data, rfl, rfl, by omega, by omega, ?_⟩
    refine ⟨rfl, fun g2 => ?_⟩
    refine ⟨BV (rowT data k), by rw [BV_length, rowT_length hd (by omega)]; show _ = (data - 0) * 1; omega, ?_, BV_one _, by show (_ + _) * 1 ≤ _; omega, by omega, .inr ⟨2, rfl, rfl, rfl, rfl, rfl, rfl, fun A' cap' hg' => ?_⟩⟩
    · intro j u hu
      have hj : j < data := by
        have := (List.getElem?_eq_some_iff.1 hu).1
        rwa [BV_length, rowT_length hd (by omega)] at this
      have hcell : (tabC data (tbl data 16 0))[1 + k * 8 + j]? = some u := by
        unfold tabC
        rw [show 1 + k * 8 + j = (k * 8 + j) + 1 by omega, List.getElem?_cons_succ]
        unfold BV rowT at hu
        rw [List.getElem?_map, List.getElem?_take_of_lt hj, List.getElem?_drop] at hu
        unfold BV
        rw [List.getElem?_map]; exact hu
      have hR := hT _ _ hcell
      rw [← addr_tab (g := g) (i := k) (j := j)] at hR
      exact ⟨_, rfl, .inl (.inl hR)⟩
    refine ⟨by omega, by omega, _, rfl, ?_⟩
    refine ⟨rfl, rfl, 0, nthK_mk rfl (strow (by rw [List.length_append, List.length_replicate]; omega) ?_)⟩
    (intro z hz; obtain rfl : z = ((k + 1 : Nat) : Int) := (by first | (rw [IntKind.wrap_i64] at hz; omega) | (rw [IntKind.wrap_u64] at hz; omega) | omega); clear hz)
    obtain ⟨b, hb⟩ : ∃ b : Hp, b = [.ro ids C, .row A' (0 + (data - 0)) cap' 5 1 ([] ++ BV (rowT data k)) (0, 0)] := ⟨_, rfl⟩
    refine ⟨rfl, (k + 1, vs ++ [.slice A' (0 + (data - 0)) cap'], idsOf b, cellsOf b), ⟨d, ?_⟩, by show total - (k + 1) < total - k; omega, ⟨rfl, trivial⟩, ?_, rfl⟩
    · rw [rowsT_succ]
      refine VsR.snoc (hv.mono (ro_in 0 (by rw [hb]; rfl))) ?_
      have hl : 0 + (data - 0) = (rowT data k).length := by rw [rowT_length hd (by omega)]; omega
      have hq : BsR (RH noC b) (.slice A' (0 + (data - 0)) cap') (rowT data k) := BsR.own 1 (by rw [hb]; rfl) hl rfl hg'
      exact ⟨A', cap', by rw [hl], (fun h => by cases h), SlR.mono hq fun _ _ => cells_rh⟩
    · show Ent ([.row (some ⟨g0, 0, .none⟩) total total 25 1 ((vs ++ List.replicate (total - k) nilS).set k (.slice A' (0 + (data - 0)) cap')) (0, 0)] ++ [.ro ids C, .row A' (0 + (data - 0)) cap' 5 1 ([] ++ BV (rowT data k)) (0, 0)])
        ([.row (some ⟨g0, 0, .none⟩) total total 25 1 ((vs ++ [.slice A' (0 + (data - 0)) cap']) ++ List.replicate (total - (k + 1)) nilS) (0, 0)] ++ [.ro _ _])
      have e : (vs ++ List.replicate (total - k) nilS).set k (.slice A' (0 + (data - 0)) cap') = (vs ++ [.slice A' (0 + (data - 0)) cap']) ++ List.replicate (total - (k + 1)) nilS := by
        rw [List.set_append_right _ _ (by omega), hvl, Nat.sub_self, show total - k = (total - (k + 1)) + 1 by omega, List.replicate_succ, List.set_cons_zero, List.append_assoc]; rfl
      rw [e, hb]
      exact Ent.freeze _ _
  · repeat (first | (refine ⟨fun h => ?_, fun h => ?_⟩; rotate_left 1; (focus (exfalso; (first | (with_reducible (cases h; done)) | (revert h; simp; done) | (revert h; simp; omega) | (revert h; simp [*]; done)))); clear h) | (refine ⟨fun h => ?_, fun h => ?_⟩; (focus (exfalso; (first | (with_reducible (cases h; done)) | (revert h; simp; done) | (revert h; simp; omega) | (revert h; simp [*]; done)))); clear h))
    obtain rfl : k = total := by omega
    obtain ⟨b, hb⟩ : ∃ b : Hp, b = [.row (some ⟨g0, 0, .none⟩) k k 25 1 vs (0, 0), .ro ids C] := ⟨_, rfl⟩
    refine ⟨[.ro (idsOf b) (cellsOf b)], ?_, _, _, rfl, ?_⟩
    · rw [hb]
      show Ent [.row (some ⟨g0, 0, .none⟩) k k 25 1 (vs ++ List.replicate (k - k) nilS) (0, 0), .ro ids C] _
      rw [Nat.sub_self, List.replicate_zero, List.append_nil]
      exact Ent.freeze [] _
    · have := Bss.own (R := noC) (h := b) (l := rowsT data k) 0 (by rw [hb]; rfl) (.inr ⟨g0, rfl⟩) (rowsT_length data k).symm (hv.mono (ro_rh 1 (by rw [hb]; rfl)))
      exact this.mono fun _ _ => cells_rh

end Go.Proofs.YtgnmbgbiajgpeaaDoor
