/-
  Transfer: the reference's Missing, Data and Check.
-/
import Derived.Test.YtnifppnpplgghaaGreatDoorTsa
import Derived.Test.YtnifppnpplgghaaGreatDoorTrg
namespace Go.Proofs.YtnifppnpplgghaaGreatDoor
open Go Go.RowKit
set_option linter.unusedVariables false
set_option linter.unusedSimpArgs false

def RSl.sl (x : RSl) : Slot := if x.b = true then some (x.p.dt, x.p.path) else .none
theorem RSl.sl_yes {x : RSl} (h : x.b = true) : x.sl = some (x.p.dt, x.p.path) := if_pos h
theorem RSl.sl_no {x : RSl} (h : x.b = false) : x.sl = .none := if_neg (by rw [h]; decide)
theorem rs_get {l : List RSl} {i : Nat} {x : RSl} (h : l[i]? = some x) : (l.map RSl.sl).getD i .none = x.sl := by
  rw [List.getD_eq_getElem?_getD, List.getElem?_map, h]; rfl

set_option maxRecDepth 100000 in
set_option maxHeartbeats 4000000 in
theorem rMissing_ok (R : Rd) (h : Hd) (B : Value) (l : List RSl) (ha hp : Option Addr) (ca cp : Nat) (hl : l.length ≤ 128) (hbs : SlR R 1 (.slice ha l.length ca) l.length (rsB l)) :
    Fn Tryz.prog 18 [.agg ⟨hdC h B ++ [.slice ha l.length ca, .slice hp l.length cp]⟩] [] R (OwnN · (missL (l.map RSl.sl)) ·) := by
  have hML := maxLen_eq
  have hlen : (l.map RSl.sl).length = l.length := List.length_map _
  refine fn_of_vc mixed tabOk Tryz.func18 rfl (by kernel_rfl) (Nat.le_of_ble_eq_true rfl) ?_
  intro gb
  refine ⟨rfl, fun g0 => ?_⟩
  refine ⟨[none, none, none, some 3, some 4, none, some 6, some 7, some 8, some 9, some 10, some 11, some 12, some 13, some 14, some 15, some 16, some 17, some 18, some 19, some 20, some 21, some 22, some 23], [3, 4], Nat × Option Addr × Nat × Nat × List Value, fun ⟨i, A, n, cap, xs⟩ => i ≤ l.length ∧ n = (missK (l.map RSl.sl) i).length ∧ xs = NV (missK (l.map RSl.sl) i) ∧ grow n A, fun ⟨i, A, n, cap, xs⟩ => [.slice A n cap, .int .i64 i],
    fun ⟨i, A, n, cap, xs⟩ => [.blk gb 39 (hdC h B ++ [.slice ha l.length ca, .slice hp l.length cp]), .row A n cap 3 1 xs (0, 0)], fun ⟨i, _⟩ => l.length - i, (0, some ⟨g0, 0, .none⟩, 0, 0, []), ⟨Nat.zero_le _, rfl, rfl, .inr ⟨g0, rfl⟩⟩, ⟨rfl, rfl, trivial⟩, Ent.refl _, ?_⟩
  rintro ⟨i, A, n, cap, xs⟩ ⟨hi, hn1, hx1, hg⟩ js
  have hi : i ≤ l.length := hi
  have hmk := missK_le (l.map RSl.sl) i
  refine ⟨_, ld 0 rfl rfl, ?_⟩
  refine ⟨fun hb => ?_, fun hb => ?_⟩
  · replace hb := of_decide_eq_true hb
    have hlt : i < l.length := by omega
    obtain ⟨x, hx0⟩ : ∃ x, l[i]? = some x := ⟨_, List.getElem?_eq_getElem hlt⟩
    obtain ⟨a1, rfl, hr1⟩ := sl1_at hbs (show (rsB l)[i]? = some (.bool x.b) by unfold rsB; rw [List.getElem?_map, hx0]; rfl)
    have hgt := rs_get hx0
    refine ⟨_, ld 0 rfl rfl, ?_⟩
    refine ⟨by omega, by omega, a1, rfl, _, .inl hr1, ?_⟩
    cases hxb : x.b with
    | false =>
      rw [RSl.sl_no hxb] at hgt
      repeat (first | (refine ⟨fun h => ?_, fun h => ?_⟩; rotate_left 1; (focus (exfalso; (first | (with_reducible (cases h; done)) | (revert h; simp; done) | (revert h; simp; omega) | (revert h; simp [*]; done)))); clear h) | (refine ⟨fun h => ?_, fun h => ?_⟩; (focus (exfalso; (first | (with_reducible (cases h; done)) | (revert h; simp; done) | (revert h; simp; omega) | (revert h; simp [*]; done)))); clear h))
      intro z hz
      obtain rfl := mul_nat (a := i) (b := 512) (by omega) hz
      clear hz
      refine ⟨rfl, fun g1 => ?_⟩
      refine ⟨NV [i * 512], rfl, rdRow 2 rfl, rfl, by show (_ + 1) * 8 ≤ _; omega, by omega, .inr ⟨1, rfl, rfl, rfl, rfl, rfl, rfl, fun A3 cap3 hg3 => ?_⟩⟩
      (intro z hz; obtain rfl : z = ((i + 1 : Nat) : Int) := (by first | (rw [IntKind.wrap_i64] at hz; omega) | (rw [IntKind.wrap_u64] at hz; omega) | omega); clear hz)
      exact ⟨rfl, (i + 1, A3, n + 1, cap3, xs ++ NV [i * 512]), ⟨hlt, by rw [missK_none hgt, List.length_append, hn1]; rfl, by rw [missK_none hgt, NV_append, hx1], hg3⟩, by show l.length - (i + 1) < l.length - i; omega, ⟨rfl, rfl, trivial⟩, Ent.pick [0, 0] rfl, rfl⟩
    | true =>
      rw [RSl.sl_yes hxb] at hgt
      repeat (first | (refine ⟨fun h => ?_, fun h => ?_⟩; rotate_left 1; (focus (exfalso; (first | (with_reducible (cases h; done)) | (revert h; simp; done) | (revert h; simp; omega) | (revert h; simp [*]; done)))); clear h) | (refine ⟨fun h => ?_, fun h => ?_⟩; (focus (exfalso; (first | (with_reducible (cases h; done)) | (revert h; simp; done) | (revert h; simp; omega) | (revert h; simp [*]; done)))); clear h))
      (intro z hz; obtain rfl : z = ((i + 1 : Nat) : Int) := (by first | (rw [IntKind.wrap_i64] at hz; omega) | (rw [IntKind.wrap_u64] at hz; omega) | omega); clear hz)
      exact ⟨rfl, (i + 1, A, n, cap, xs), ⟨hlt, by rw [missK_some hgt]; exact hn1, by rw [missK_some hgt]; exact hx1, hg⟩, by show l.length - (i + 1) < l.length - i; omega, ⟨rfl, rfl, trivial⟩, Ent.refl _, rfl⟩
  · replace hb := of_decide_eq_false hb
    obtain rfl : i = l.length := by omega
    have e : missK (l.map RSl.sl) l.length = missL (l.map RSl.sl) := by unfold missL; rw [hlen]; rfl
    rw [e] at hn1 hx1
    subst hn1 hx1
    exact ⟨_, Ent.pick [1] rfl, A, cap, rfl, rfl, hg⟩

def datK (l : List RSl) (i : Nat) : Str := cat (dataL ((l.take i).map RSl.sl))
theorem datK_succ {l : List RSl} {i : Nat} {x : RSl} (h : l[i]? = some x) : datK l (i + 1) = datK l i ++ (if x.b = true then x.p.dt else []) := by
  unfold datK
  rw [List.take_add_one, h, List.map_append]
  unfold dataL
  rw [List.map_append]
  show cat (_ ++ [_]) = _
  rw [cat_snoc]
  congr 1
  unfold RSl.sl
  split <;> rfl
set_option maxRecDepth 100000 in
set_option maxHeartbeats 4000000 in
theorem rData_ok (R : Rd) (h : Hd) (B : Value) (l : List RSl) (ha hp : Option Addr) (ca cp : Nat) (hl : l.length ≤ 128) (hbs : SlR R 1 (.slice ha l.length ca) l.length (rsB l)) (hcs : SlR R 5 (.slice hp l.length cp) l.length (rsC l))
    (wp : ∀ x ∈ l, x.b = true → x.p.dt.length ≤ 512 ∧ Bs R x.D x.p.dt) :
    Fn Tryz.prog 23 [.agg ⟨hdC h B ++ [.slice ha l.length ca, .slice hp l.length cp]⟩] [] R
      (fun v hq => ∃ A cap, v = .slice A (haveB (l.map RSl.sl)).length cap ∧ hq = [.row A (haveB (l.map RSl.sl)).length cap 5 1 (BV (haveB (l.map RSl.sl))) (0, 0)] ∧ grow (haveB (l.map RSl.sl)).length A) := by
  have hML := maxLen_eq
  refine fn_of_vc mixed tabOk Tryz.func23 rfl (by kernel_rfl) (Nat.le_of_ble_eq_true rfl) ?_
  intro gb
  refine ⟨rfl, fun g0 => ?_⟩
  refine ⟨[none, none, none, some 3, some 4, none, some 6, some 7, some 8, some 9, some 10, some 11, some 12, some 13, some 14, some 15, some 16, some 17, some 18, some 19, some 20, some 21, some 22, some 23, some 24, some 25], [3, 4], Nat × Option Addr × Nat × Nat × List Value, fun ⟨i, A, n, cap, xs⟩ => i ≤ l.length ∧ n = (datK l i).length ∧ n ≤ i * 512 ∧ xs = BV (datK l i) ∧ grow n A, fun ⟨i, A, n, cap, xs⟩ => [.slice A n cap, .int .i64 i],
    fun ⟨i, A, n, cap, xs⟩ => [.blk gb 39 (hdC h B ++ [.slice ha l.length ca, .slice hp l.length cp]), .row A n cap 5 1 xs (0, 0)], fun ⟨i, _⟩ => l.length - i, (0, some ⟨g0, 0, .none⟩, 0, 0, []), ⟨Nat.zero_le _, rfl, Nat.zero_le _, rfl, .inr ⟨g0, rfl⟩⟩, ⟨rfl, rfl, trivial⟩, Ent.refl _, ?_⟩
  rintro ⟨i, A, n, cap, xs⟩ ⟨hi, hn1, hn2, hx1, hg⟩ js
  have hi : i ≤ l.length := hi
  have hn2 : n ≤ i * 512 := hn2
  refine ⟨_, ld 0 rfl rfl, ?_⟩
  refine ⟨fun hb => ?_, fun hb => ?_⟩
  · replace hb := of_decide_eq_true hb
    have hlt : i < l.length := by omega
    obtain ⟨x, hx0⟩ : ∃ x, l[i]? = some x := ⟨_, List.getElem?_eq_getElem hlt⟩
    obtain ⟨a1, rfl, hr1⟩ := sl1_at hbs (show (rsB l)[i]? = some (.bool x.b) by unfold rsB; rw [List.getElem?_map, hx0]; rfl)
    obtain ⟨a2, rfl, hr2⟩ := sl5_at hcs hx0
    have hds := datK_succ hx0
    refine ⟨_, ld 0 rfl rfl, ?_⟩
    refine ⟨by omega, by omega, a1, rfl, _, .inl hr1, ?_⟩
    cases hxb : x.b with
    | false =>
      rw [hxb, if_neg (by decide), List.append_nil] at hds
      repeat (first | (refine ⟨fun h => ?_, fun h => ?_⟩; rotate_left 1; (focus (exfalso; (first | (with_reducible (cases h; done)) | (revert h; simp; done) | (revert h; simp; omega) | (revert h; simp [*]; done)))); clear h) | (refine ⟨fun h => ?_, fun h => ?_⟩; (focus (exfalso; (first | (with_reducible (cases h; done)) | (revert h; simp; done) | (revert h; simp; omega) | (revert h; simp [*]; done)))); clear h))
      (intro z hz; obtain rfl : z = ((i + 1 : Nat) : Int) := (by first | (rw [IntKind.wrap_i64] at hz; omega) | (rw [IntKind.wrap_u64] at hz; omega) | omega); clear hz)
      exact ⟨rfl, (i + 1, A, n, cap, xs), ⟨hlt, by rw [hds]; exact hn1, by show n ≤ (i + 1) * 512; omega, by rw [hds]; exact hx1, hg⟩, by show l.length - (i + 1) < l.length - i; omega, ⟨rfl, rfl, trivial⟩, Ent.refl _, rfl⟩
    | true =>
      rw [hxb, if_pos rfl] at hds
      obtain ⟨h512, DA, dc, hD, hdc, hdr⟩ := wp x (List.mem_of_getElem? hx0) hxb
      rw [hD] at hdr
      repeat (first | (refine ⟨fun h => ?_, fun h => ?_⟩; rotate_left 1; (focus (exfalso; (first | (with_reducible (cases h; done)) | (revert h; simp; done) | (revert h; simp; omega) | (revert h; simp [*]; done)))); clear h) | (refine ⟨fun h => ?_, fun h => ?_⟩; (focus (exfalso; (first | (with_reducible (cases h; done)) | (revert h; simp; done) | (revert h; simp; omega) | (revert h; simp [*]; done)))); clear h))
      refine ⟨_, ld 0 rfl rfl, ?_⟩
      refine ⟨by omega, by omega, a2, rfl, ?_⟩
      have hr3 := hr2 3 _ (show x.cells[3]? = some (.slice DA x.p.dt.length dc) by rw [← hD]; rfl)
      rw [addA_eq] at hr3
      refine ⟨_, .inl hr3, ?_⟩
      refine ⟨BV x.p.dt, by rw [BV_length]; exact (Nat.mul_one _).symm, (hdr.rh _).src, BV_one _, by show (_ + _) * 1 ≤ _; omega, by omega, .inr ⟨1, rfl, rfl, rfl, rfl, rfl, rfl, fun A3 cap3 hg3 => ?_⟩⟩
      (intro z hz; obtain rfl : z = ((i + 1 : Nat) : Int) := (by first | (rw [IntKind.wrap_i64] at hz; omega) | (rw [IntKind.wrap_u64] at hz; omega) | omega); clear hz)
      exact ⟨rfl, (i + 1, A3, n + x.p.dt.length, cap3, xs ++ BV x.p.dt), ⟨hlt, by rw [hds, List.length_append, hn1], by show n + x.p.dt.length ≤ (i + 1) * 512; omega, by rw [hds, hx1]; unfold BV; rw [List.map_append], hg3⟩, by show l.length - (i + 1) < l.length - i; omega, ⟨rfl, rfl, trivial⟩, Ent.pick [0, 0] rfl, rfl⟩
  · replace hb := of_decide_eq_false hb
    obtain rfl : i = l.length := by omega
    have e : datK l l.length = haveB (l.map RSl.sl) := by unfold datK haveB; rw [List.take_length]
    rw [e] at hn1 hx1
    subst hn1 hx1
    exact ⟨_, Ent.pick [1] rfl, A, cap, rfl, rfl, hg⟩

end Go.Proofs.YtnifppnpplgghaaGreatDoor
