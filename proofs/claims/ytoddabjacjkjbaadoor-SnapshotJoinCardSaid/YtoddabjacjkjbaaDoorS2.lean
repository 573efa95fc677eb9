/-
  Contracts: records of snapshots (package snapshot).
-/
import Derived.Test.YtoddabjacjkjbaaDoorS1
import Derived.Test.YtoddabjacjkjbaaDoorW2
import Derived.Test.YtoddabjacjkjbaaDoorH2
namespace Go.Proofs.YtoddabjacjkjbaaDoor
open Go Go.RowKit
set_option linter.unusedVariables false

theorem rdBlk {R : Rd} {h : Hp} (i : Nat) {g : Nat} {t : TypeId} {cs : List Value} (hi : h[i]? = some (.blk g t cs)) : ∀ j u, cs[j]? = some u → RH R h ((⟨g, 0, .none⟩ : Addr).add j) u := by
  intro j u hu
  rw [add_zero_addr]
  exact ld i hi hu

theorem within_ok (R : Rd) (n lo hi : Int) : Fn Tryd.prog 163 [.int .i64 n, .int .i64 lo, .int .i64 hi] [] R (fun v h => v = .bool (inB n lo hi) ∧ h = []) := by
  refine fn_of_vc mixed tabOk Tryd.func163 rfl (by kernel_rfl) (Nat.le_of_ble_eq_true rfl) ?_
  by_cases h1 : lo ≤ n
  · have e : inB n lo hi = decide (n ≤ hi) := by rw [inB, decide_eq_true h1, Bool.true_and]
    repeat (first | (refine ⟨fun h => ?_, fun h => ?_⟩; rotate_left 1; (focus (exfalso; (first | (with_reducible (cases h; done)) | (revert h; simp; done) | (revert h; simp; omega) | (revert h; simp [*]; done)))); clear h) | (refine ⟨fun h => ?_, fun h => ?_⟩; (focus (exfalso; (first | (with_reducible (cases h; done)) | (revert h; simp; done) | (revert h; simp; omega) | (revert h; simp [*]; done)))); clear h))
    exact ⟨_, Ent.refl _, by rw [e]; rfl, rfl⟩
  · have e : inB n lo hi = false := by rw [inB, decide_eq_false h1, Bool.false_and]
    repeat (first | (refine ⟨fun h => ?_, fun h => ?_⟩; rotate_left 1; (focus (exfalso; (first | (with_reducible (cases h; done)) | (revert h; simp; done) | (revert h; simp; omega) | (revert h; simp [*]; done)))); clear h) | (refine ⟨fun h => ?_, fun h => ?_⟩; (focus (exfalso; (first | (with_reducible (cases h; done)) | (revert h; simp; done) | (revert h; simp; omega) | (revert h; simp [*]; done)))); clear h))
    refine ⟨_, Ent.refl _, ?_, rfl⟩
    rw [e]; first | rfl | (show Value.bool (decide _) = _; rw [decide_eq_false h1])

set_option maxRecDepth 100000 in
set_option maxHeartbeats 1000000 in
theorem valid_ok (R : Rd) (s : Snap) : Fn Tryd.prog 125 [.agg ⟨s.cells⟩] [] R (fun v h => v = .bool (validB s) ∧ h = []) := by
  refine fn_of_vc mixed tabOk Tryd.func125 rfl (by kernel_rfl) (Nat.le_of_ble_eq_true rfl) ?_
  intro g
  refine ⟨_, ld 0 rfl rfl, ?_⟩
  refine ⟨[], _, within_ok _ _ _ _, ?_⟩
  rintro _ _ ⟨rfl, rfl⟩
  cases h1 : inB s.w 0 11
  · have e : validB s = false := by rw [validB, h1, Bool.false_and]
    repeat (first | (refine ⟨fun h => ?_, fun h => ?_⟩; rotate_left 1; (focus (exfalso; (first | (with_reducible (cases h; done)) | (revert h; simp; done) | (revert h; simp; omega) | (revert h; simp [*]; done)))); clear h) | (refine ⟨fun h => ?_, fun h => ?_⟩; (focus (exfalso; (first | (with_reducible (cases h; done)) | (revert h; simp; done) | (revert h; simp; omega) | (revert h; simp [*]; done)))); clear h))
    exact ⟨_, Ent.nil _, by rw [e]; rfl, rfl⟩
  repeat (first | (refine ⟨fun h => ?_, fun h => ?_⟩; rotate_left 1; (focus (exfalso; (first | (with_reducible (cases h; done)) | (revert h; simp; done) | (revert h; simp; omega) | (revert h; simp [*]; done)))); clear h) | (refine ⟨fun h => ?_, fun h => ?_⟩; (focus (exfalso; (first | (with_reducible (cases h; done)) | (revert h; simp; done) | (revert h; simp; omega) | (revert h; simp [*]; done)))); clear h))
  refine ⟨_, ld 0 rfl rfl, ?_⟩
  repeat (first | (refine ⟨fun h => ?_, fun h => ?_⟩; rotate_left 1; (focus (exfalso; (first | (with_reducible (cases h; done)) | (revert h; simp; done) | (revert h; simp; omega) | (revert h; simp [*]; done)))); clear h) | (refine ⟨fun h => ?_, fun h => ?_⟩; (focus (exfalso; (first | (with_reducible (cases h; done)) | (revert h; simp; done) | (revert h; simp; omega) | (revert h; simp [*]; done)))); clear h))
  refine ⟨[], _, within_ok _ _ _ _, ?_⟩
  rintro _ _ ⟨rfl, rfl⟩
  cases h2 : inB s.q 1 1099511627776
  · have e : validB s = false := by rw [validB, h1, h2, Bool.true_and, Bool.false_and]
    repeat (first | (refine ⟨fun h => ?_, fun h => ?_⟩; rotate_left 1; (focus (exfalso; (first | (with_reducible (cases h; done)) | (revert h; simp; done) | (revert h; simp; omega) | (revert h; simp [*]; done)))); clear h) | (refine ⟨fun h => ?_, fun h => ?_⟩; (focus (exfalso; (first | (with_reducible (cases h; done)) | (revert h; simp; done) | (revert h; simp; omega) | (revert h; simp [*]; done)))); clear h))
    exact ⟨_, Ent.nil _, by rw [e]; rfl, rfl⟩
  repeat (first | (refine ⟨fun h => ?_, fun h => ?_⟩; rotate_left 1; (focus (exfalso; (first | (with_reducible (cases h; done)) | (revert h; simp; done) | (revert h; simp; omega) | (revert h; simp [*]; done)))); clear h) | (refine ⟨fun h => ?_, fun h => ?_⟩; (focus (exfalso; (first | (with_reducible (cases h; done)) | (revert h; simp; done) | (revert h; simp; omega) | (revert h; simp [*]; done)))); clear h))
  refine ⟨_, ld 0 rfl rfl, ?_⟩
  repeat (first | (refine ⟨fun h => ?_, fun h => ?_⟩; rotate_left 1; (focus (exfalso; (first | (with_reducible (cases h; done)) | (revert h; simp; done) | (revert h; simp; omega) | (revert h; simp [*]; done)))); clear h) | (refine ⟨fun h => ?_, fun h => ?_⟩; (focus (exfalso; (first | (with_reducible (cases h; done)) | (revert h; simp; done) | (revert h; simp; omega) | (revert h; simp [*]; done)))); clear h))
  refine ⟨[], _, within_ok _ _ _ _, ?_⟩
  rintro _ _ ⟨rfl, rfl⟩
  cases h3 : inB s.d 0 999999
  · have e : validB s = false := by rw [validB, h1, h2, h3]; rfl
    repeat (first | (refine ⟨fun h => ?_, fun h => ?_⟩; rotate_left 1; (focus (exfalso; (first | (with_reducible (cases h; done)) | (revert h; simp; done) | (revert h; simp; omega) | (revert h; simp [*]; done)))); clear h) | (refine ⟨fun h => ?_, fun h => ?_⟩; (focus (exfalso; (first | (with_reducible (cases h; done)) | (revert h; simp; done) | (revert h; simp; omega) | (revert h; simp [*]; done)))); clear h))
    exact ⟨_, Ent.nil _, by rw [e]; rfl, rfl⟩
  repeat (first | (refine ⟨fun h => ?_, fun h => ?_⟩; rotate_left 1; (focus (exfalso; (first | (with_reducible (cases h; done)) | (revert h; simp; done) | (revert h; simp; omega) | (revert h; simp [*]; done)))); clear h) | (refine ⟨fun h => ?_, fun h => ?_⟩; (focus (exfalso; (first | (with_reducible (cases h; done)) | (revert h; simp; done) | (revert h; simp; omega) | (revert h; simp [*]; done)))); clear h))
  refine ⟨_, ld 0 rfl rfl, ?_⟩
  by_cases h4 : (s.nm.length : Int) = 32
  case neg =>
    have e : validB s = false := by rw [validB, h1, h2, h3, decide_eq_false (by omega : ¬ s.nm.length = 32)]; rfl
    repeat (first | (refine ⟨fun h => ?_, fun h => ?_⟩; rotate_left 1; (focus (exfalso; (first | (with_reducible (cases h; done)) | (revert h; simp; done) | (revert h; simp; omega) | (revert h; simp [*]; done)))); clear h) | (refine ⟨fun h => ?_, fun h => ?_⟩; (focus (exfalso; (first | (with_reducible (cases h; done)) | (revert h; simp; done) | (revert h; simp; omega) | (revert h; simp [*]; done)))); clear h))
    exact ⟨_, Ent.nil _, by rw [e]; rfl, rfl⟩
  have h4' : decide (s.nm.length = 32) = true := decide_eq_true (by omega)
  repeat (first | (refine ⟨fun h => ?_, fun h => ?_⟩; rotate_left 1; (focus (exfalso; (first | (with_reducible (cases h; done)) | (revert h; simp; done) | (revert h; simp; omega) | (revert h; simp [*]; done)))); clear h) | (refine ⟨fun h => ?_, fun h => ?_⟩; (focus (exfalso; (first | (with_reducible (cases h; done)) | (revert h; simp; done) | (revert h; simp; omega) | (revert h; simp [*]; done)))); clear h))
  refine ⟨_, ld 0 rfl rfl, ?_⟩
  repeat (first | (refine ⟨fun h => ?_, fun h => ?_⟩; rotate_left 1; (focus (exfalso; (first | (with_reducible (cases h; done)) | (revert h; simp; done) | (revert h; simp; omega) | (revert h; simp [*]; done)))); clear h) | (refine ⟨fun h => ?_, fun h => ?_⟩; (focus (exfalso; (first | (with_reducible (cases h; done)) | (revert h; simp; done) | (revert h; simp; omega) | (revert h; simp [*]; done)))); clear h))
  refine ⟨[], _, within_ok _ _ _ _, ?_⟩
  rintro _ _ ⟨rfl, rfl⟩
  cases h5 : inB s.gn 0 1099511627776
  · have e : validB s = false := by rw [validB, h1, h2, h3, h4', h5]; rfl
    repeat (first | (refine ⟨fun h => ?_, fun h => ?_⟩; rotate_left 1; (focus (exfalso; (first | (with_reducible (cases h; done)) | (revert h; simp; done) | (revert h; simp; omega) | (revert h; simp [*]; done)))); clear h) | (refine ⟨fun h => ?_, fun h => ?_⟩; (focus (exfalso; (first | (with_reducible (cases h; done)) | (revert h; simp; done) | (revert h; simp; omega) | (revert h; simp [*]; done)))); clear h))
    exact ⟨_, Ent.nil _, by rw [e]; rfl, rfl⟩
  repeat (first | (refine ⟨fun h => ?_, fun h => ?_⟩; rotate_left 1; (focus (exfalso; (first | (with_reducible (cases h; done)) | (revert h; simp; done) | (revert h; simp; omega) | (revert h; simp [*]; done)))); clear h) | (refine ⟨fun h => ?_, fun h => ?_⟩; (focus (exfalso; (first | (with_reducible (cases h; done)) | (revert h; simp; done) | (revert h; simp; omega) | (revert h; simp [*]; done)))); clear h))
  refine ⟨_, ld 0 rfl rfl, ?_⟩
  repeat (first | (refine ⟨fun h => ?_, fun h => ?_⟩; rotate_left 1; (focus (exfalso; (first | (with_reducible (cases h; done)) | (revert h; simp; done) | (revert h; simp; omega) | (revert h; simp [*]; done)))); clear h) | (refine ⟨fun h => ?_, fun h => ?_⟩; (focus (exfalso; (first | (with_reducible (cases h; done)) | (revert h; simp; done) | (revert h; simp; omega) | (revert h; simp [*]; done)))); clear h))
  refine ⟨[], _, within_ok _ _ _ _, ?_⟩
  rintro _ _ ⟨rfl, rfl⟩
  cases h6 : inB s.sz 0 65536
  · have e : validB s = false := by rw [validB, h1, h2, h3, h4', h5, h6]; rfl
    repeat (first | (refine ⟨fun h => ?_, fun h => ?_⟩; rotate_left 1; (focus (exfalso; (first | (with_reducible (cases h; done)) | (revert h; simp; done) | (revert h; simp; omega) | (revert h; simp [*]; done)))); clear h) | (refine ⟨fun h => ?_, fun h => ?_⟩; (focus (exfalso; (first | (with_reducible (cases h; done)) | (revert h; simp; done) | (revert h; simp; omega) | (revert h; simp [*]; done)))); clear h))
    exact ⟨_, Ent.nil _, by rw [e]; rfl, rfl⟩
  repeat (first | (refine ⟨fun h => ?_, fun h => ?_⟩; rotate_left 1; (focus (exfalso; (first | (with_reducible (cases h; done)) | (revert h; simp; done) | (revert h; simp; omega) | (revert h; simp [*]; done)))); clear h) | (refine ⟨fun h => ?_, fun h => ?_⟩; (focus (exfalso; (first | (with_reducible (cases h; done)) | (revert h; simp; done) | (revert h; simp; omega) | (revert h; simp [*]; done)))); clear h))
  refine ⟨_, ld 0 rfl rfl, ?_⟩
  refine ⟨[], _, within_ok _ _ _ _, ?_⟩
  rintro _ _ ⟨rfl, rfl⟩
  cases h7 : inB s.fl 0 4096
  · have e : validB s = false := by rw [validB, h1, h2, h3, h4', h5, h6, h7]; rfl
    repeat (first | (refine ⟨fun h => ?_, fun h => ?_⟩; rotate_left 1; (focus (exfalso; (first | (with_reducible (cases h; done)) | (revert h; simp; done) | (revert h; simp; omega) | (revert h; simp [*]; done)))); clear h) | (refine ⟨fun h => ?_, fun h => ?_⟩; (focus (exfalso; (first | (with_reducible (cases h; done)) | (revert h; simp; done) | (revert h; simp; omega) | (revert h; simp [*]; done)))); clear h))
    exact ⟨_, Ent.nil _, by rw [e]; rfl, rfl⟩
  repeat (first | (refine ⟨fun h => ?_, fun h => ?_⟩; rotate_left 1; (focus (exfalso; (first | (with_reducible (cases h; done)) | (revert h; simp; done) | (revert h; simp; omega) | (revert h; simp [*]; done)))); clear h) | (refine ⟨fun h => ?_, fun h => ?_⟩; (focus (exfalso; (first | (with_reducible (cases h; done)) | (revert h; simp; done) | (revert h; simp; omega) | (revert h; simp [*]; done)))); clear h))
  refine ⟨_, ld 0 rfl rfl, ?_⟩
  repeat (first | (refine ⟨fun h => ?_, fun h => ?_⟩; rotate_left 1; (focus (exfalso; (first | (with_reducible (cases h; done)) | (revert h; simp; done) | (revert h; simp; omega) | (revert h; simp [*]; done)))); clear h) | (refine ⟨fun h => ?_, fun h => ?_⟩; (focus (exfalso; (first | (with_reducible (cases h; done)) | (revert h; simp; done) | (revert h; simp; omega) | (revert h; simp [*]; done)))); clear h))
  refine ⟨[], _, within_ok _ _ _ _, ?_⟩
  rintro _ _ ⟨rfl, rfl⟩
  cases h8 : inB s.bt 0 1099511627776
  · have e : validB s = false := by rw [validB, h1, h2, h3, h4', h5, h6, h7, h8]; rfl
    repeat (first | (refine ⟨fun h => ?_, fun h => ?_⟩; rotate_left 1; (focus (exfalso; (first | (with_reducible (cases h; done)) | (revert h; simp; done) | (revert h; simp; omega) | (revert h; simp [*]; done)))); clear h) | (refine ⟨fun h => ?_, fun h => ?_⟩; (focus (exfalso; (first | (with_reducible (cases h; done)) | (revert h; simp; done) | (revert h; simp; omega) | (revert h; simp [*]; done)))); clear h))
    exact ⟨_, Ent.nil _, by rw [e]; rfl, rfl⟩
  have e : validB s = if s.q = 1 then decide (s.pv = []) else decide (s.pv.length = 32) := by
    rw [validB, h1, h2, h3, h4', h5, h6, h7, h8]; simp only [Bool.true_and]
  repeat (first | (refine ⟨fun h => ?_, fun h => ?_⟩; rotate_left 1; (focus (exfalso; (first | (with_reducible (cases h; done)) | (revert h; simp; done) | (revert h; simp; omega) | (revert h; simp [*]; done)))); clear h) | (refine ⟨fun h => ?_, fun h => ?_⟩; (focus (exfalso; (first | (with_reducible (cases h; done)) | (revert h; simp; done) | (revert h; simp; omega) | (revert h; simp [*]; done)))); clear h))
  refine ⟨_, ld 0 rfl rfl, ?_⟩
  by_cases h9 : s.q = 1
  · repeat (first | (refine ⟨fun h => ?_, fun h => ?_⟩; rotate_left 1; (focus (exfalso; (first | (with_reducible (cases h; done)) | (revert h; simp; done) | (revert h; simp; omega) | (revert h; simp [*]; done)))); clear h) | (refine ⟨fun h => ?_, fun h => ?_⟩; (focus (exfalso; (first | (with_reducible (cases h; done)) | (revert h; simp; done) | (revert h; simp; omega) | (revert h; simp [*]; done)))); clear h))
    refine ⟨_, ld 0 rfl rfl, ?_⟩
    exact ⟨_, Ent.nil _, by rw [e, if_pos h9]; rfl, rfl⟩
  · repeat (first | (refine ⟨fun h => ?_, fun h => ?_⟩; rotate_left 1; (focus (exfalso; (first | (with_reducible (cases h; done)) | (revert h; simp; done) | (revert h; simp; omega) | (revert h; simp [*]; done)))); clear h) | (refine ⟨fun h => ?_, fun h => ?_⟩; (focus (exfalso; (first | (with_reducible (cases h; done)) | (revert h; simp; done) | (revert h; simp; omega) | (revert h; simp [*]; done)))); clear h))
    refine ⟨_, ld 0 rfl rfl, ?_⟩
    refine ⟨_, Ent.nil _, ?_, rfl⟩
    rw [e, if_neg h9]
    show Value.bool (decide ((s.pv.length : Int) = 32)) = Value.bool (decide (s.pv.length = 32))
    congr 1
    exact decide_eq_decide.2 (by omega)

theorem bare_ok (R : Rd) (s : Snap) : Fn Tryd.prog 126 [.agg ⟨s.cells⟩] [] R (fun v h => v = .agg ⟨s.bare.cells⟩ ∧ h = []) := by
  refine fn_of_vc mixed tabOk Tryd.func126 rfl (by kernel_rfl) (Nat.le_of_ble_eq_true rfl) ?_
  intro g1
  intro g2
  refine ⟨rfl, rfl, 0, rfl, rfl, Nat.le_of_ble_eq_true rfl, ?_⟩
  refine ⟨s.bare.cells, rdBlk 0 rfl, rfl, ?_⟩
  refine ⟨rfl, rfl, 1, rfl, rfl, Nat.le_of_ble_eq_true rfl, ?_⟩
  refine ⟨s.bare.cells, rdBlk 1 rfl, rfl, ?_⟩
  exact ⟨_, Ent.nil _, rfl, rfl⟩

theorem shown_ok (R : Rd) (r : Rec) : Fn Tryd.prog 130 [.agg ⟨r.cells⟩] [] R (fun v h => v = .agg ⟨r.shown.cells⟩ ∧ h = []) := by
  refine fn_of_vc mixed tabOk Tryd.func130 rfl (by kernel_rfl) (Nat.le_of_ble_eq_true rfl) ?_
  intro g1
  intro g2
  refine ⟨r.s.cells, fun j u hu => ?_, rfl, ?_⟩
  · have hj : j < 10 := (List.getElem?_eq_some_iff.1 hu).1
    show RH R _ ((⟨g1, 0, .none⟩ : Addr).add j) u
    rw [add_zero_addr]
    refine ld 0 rfl ?_
    show (r.s.cells ++ [.bool r.fo, .bool r.he])[j]? = some u
    rw [List.getElem?_append_left hj]; exact hu
  intro g3
  refine ⟨rfl, rfl, 2, rfl, rfl, Nat.le_of_ble_eq_true rfl, ?_⟩
  refine ⟨_, ld 0 rfl rfl, ?_⟩
  refine ⟨rfl, rfl, 2, rfl, rfl, Nat.le_of_ble_eq_true rfl, ?_⟩
  refine ⟨r.shown.cells, rdBlk 2 rfl, rfl, ?_⟩
  refine ⟨rfl, rfl, 1, rfl, rfl, Nat.le_of_ble_eq_true rfl, ?_⟩
  refine ⟨r.shown.cells, rdBlk 1 rfl, rfl, ?_⟩
  exact ⟨_, Ent.nil _, rfl, rfl⟩

end Go.Proofs.YtoddabjacjkjbaaDoor

namespace Go.Proofs.YtoddabjacjkjbaaDoor
open Go Go.RowKit
set_option linter.unusedVariables false

set_option maxRecDepth 100000 in
set_option maxHeartbeats 2000000 in
theorem write_ok (R : Rd) (g : Nat) (bs : Str) (h : Hp) (s : Snap) (hv : Valid s) (hb : bs.length ≤ 140737487000000) (hw : IsW g bs 0 h) :
    Fn Tryd.prog 92 [.pointer (some ⟨g, 0, .none⟩), .agg ⟨s.cells⟩] h R (fun _ h' => IsW g (bs ++ encP s) 0 h') := by
  have hpv := hv.pv_le
  obtain ⟨v1, v2, v3, v4, v5, v6, v7, v8, _, _⟩ := hv
  have hu : ∀ {n : Nat}, n ≤ 18446744073709551615 → (num n).length ≤ 10 := fun h => by rw [length_num]; exact usize_le10 h
  obtain ⟨A, k, cap, xs, rfl, hk, hx, hg⟩ := hw
  refine fn_of_vc mixed tabOk Tryd.func92 rfl (by kernel_rfl) (Nat.le_of_ble_eq_true rfl) ?_
  intro gb
  refine ⟨_, ld 2 rfl rfl, ?_⟩
  (intro z hz; obtain rfl : z = ((s.w.toNat : Nat) : Int) := (by first | (rw [IntKind.wrap_i64] at hz; omega) | (rw [IntKind.wrap_u64] at hz; omega) | omega); clear hz)
  refine ⟨[0, 0], _, WUint_ok _ g bs 0 _ s.w.toNat (by omega) (by omega) ⟨A, k, cap, xs, rfl, hk, hx, hg⟩, ?_⟩
  clear hk hx hg
  rintro _ h' hw
  rw [if_pos rfl] at hw
  obtain ⟨b1, e1⟩ : ∃ b, b = bs ++ num s.w.toNat := ⟨_, rfl⟩
  rw [← e1] at hw
  have l1 : b1.length ≤ bs.length + 40 := by rw [e1, List.length_append]; have := hu (n := s.w.toNat) (by omega); omega
  obtain ⟨A, k, cap, xs, rfl, hk, hx, hg⟩ := hw
  refine ⟨_, ld 0 rfl rfl, ?_⟩
  (intro z hz; obtain rfl : z = ((s.q.toNat : Nat) : Int) := (by first | (rw [IntKind.wrap_i64] at hz; omega) | (rw [IntKind.wrap_u64] at hz; omega) | omega); clear hz)
  refine ⟨[1, 1], _, WUint_ok _ g b1 0 _ s.q.toNat (by omega) (by omega) ⟨A, k, cap, xs, rfl, hk, hx, hg⟩, ?_⟩
  clear hk hx hg
  rintro _ h' hw
  rw [if_pos rfl] at hw
  obtain ⟨b2, e2⟩ : ∃ b, b = b1 ++ num s.q.toNat := ⟨_, rfl⟩
  rw [← e2] at hw
  have l2 : b2.length ≤ b1.length + 40 := by rw [e2, List.length_append]; have := hu (n := s.q.toNat) (by omega); omega
  obtain ⟨A, k, cap, xs, rfl, hk, hx, hg⟩ := hw
  refine ⟨_, ld 0 rfl rfl, ?_⟩
  (intro z hz; obtain rfl : z = ((s.d.toNat : Nat) : Int) := (by first | (rw [IntKind.wrap_i64] at hz; omega) | (rw [IntKind.wrap_u64] at hz; omega) | omega); clear hz)
  refine ⟨[1, 1], _, WUint_ok _ g b2 0 _ s.d.toNat (by omega) (by omega) ⟨A, k, cap, xs, rfl, hk, hx, hg⟩, ?_⟩
  clear hk hx hg
  rintro _ h' hw
  rw [if_pos rfl] at hw
  obtain ⟨b3, e3⟩ : ∃ b, b = b2 ++ num s.d.toNat := ⟨_, rfl⟩
  rw [← e3] at hw
  have l3 : b3.length ≤ b2.length + 40 := by rw [e3, List.length_append]; have := hu (n := s.d.toNat) (by omega); omega
  obtain ⟨A, k, cap, xs, rfl, hk, hx, hg⟩ := hw
  refine ⟨_, ld 0 rfl rfl, ?_⟩
  refine ⟨[1, 1], _, WSum_ok _ g b3 0 _ s.nm (by omega) ⟨A, k, cap, xs, rfl, hk, hx, hg⟩, ?_⟩
  clear hk hx hg
  rintro _ h' hw
  rw [if_pos ⟨rfl, v4⟩, if_neg (fun h => h.2 v4)] at hw
  obtain ⟨b4, e4⟩ : ∃ b, b = b3 ++ s.nm := ⟨_, rfl⟩
  rw [← e4] at hw
  have l4 : b4.length ≤ b3.length + 40 := by rw [e4, List.length_append]; skip; omega
  obtain ⟨A, k, cap, xs, rfl, hk, hx, hg⟩ := hw
  refine ⟨_, ld 0 rfl rfl, ?_⟩
  (intro z hz; obtain rfl : z = ((s.gn.toNat : Nat) : Int) := (by first | (rw [IntKind.wrap_i64] at hz; omega) | (rw [IntKind.wrap_u64] at hz; omega) | omega); clear hz)
  refine ⟨[1, 1], _, WUint_ok _ g b4 0 _ s.gn.toNat (by omega) (by omega) ⟨A, k, cap, xs, rfl, hk, hx, hg⟩, ?_⟩
  clear hk hx hg
  rintro _ h' hw
  rw [if_pos rfl] at hw
  obtain ⟨b5, e5⟩ : ∃ b, b = b4 ++ num s.gn.toNat := ⟨_, rfl⟩
  rw [← e5] at hw
  have l5 : b5.length ≤ b4.length + 40 := by rw [e5, List.length_append]; have := hu (n := s.gn.toNat) (by omega); omega
  obtain ⟨A, k, cap, xs, rfl, hk, hx, hg⟩ := hw
  refine ⟨_, ld 0 rfl rfl, ?_⟩
  (intro z hz; obtain rfl : z = ((s.sz.toNat : Nat) : Int) := (by first | (rw [IntKind.wrap_i64] at hz; omega) | (rw [IntKind.wrap_u64] at hz; omega) | omega); clear hz)
  refine ⟨[1, 1], _, WUint_ok _ g b5 0 _ s.sz.toNat (by omega) (by omega) ⟨A, k, cap, xs, rfl, hk, hx, hg⟩, ?_⟩
  clear hk hx hg
  rintro _ h' hw
  rw [if_pos rfl] at hw
  obtain ⟨b6, e6⟩ : ∃ b, b = b5 ++ num s.sz.toNat := ⟨_, rfl⟩
  rw [← e6] at hw
  have l6 : b6.length ≤ b5.length + 40 := by rw [e6, List.length_append]; have := hu (n := s.sz.toNat) (by omega); omega
  obtain ⟨A, k, cap, xs, rfl, hk, hx, hg⟩ := hw
  refine ⟨_, ld 0 rfl rfl, ?_⟩
  (intro z hz; obtain rfl : z = ((s.fl.toNat : Nat) : Int) := (by first | (rw [IntKind.wrap_i64] at hz; omega) | (rw [IntKind.wrap_u64] at hz; omega) | omega); clear hz)
  refine ⟨[1, 1], _, WUint_ok _ g b6 0 _ s.fl.toNat (by omega) (by omega) ⟨A, k, cap, xs, rfl, hk, hx, hg⟩, ?_⟩
  clear hk hx hg
  rintro _ h' hw
  rw [if_pos rfl] at hw
  obtain ⟨b7, e7⟩ : ∃ b, b = b6 ++ num s.fl.toNat := ⟨_, rfl⟩
  rw [← e7] at hw
  have l7 : b7.length ≤ b6.length + 40 := by rw [e7, List.length_append]; have := hu (n := s.fl.toNat) (by omega); omega
  obtain ⟨A, k, cap, xs, rfl, hk, hx, hg⟩ := hw
  refine ⟨_, ld 0 rfl rfl, ?_⟩
  (intro z hz; obtain rfl : z = ((s.bt.toNat : Nat) : Int) := (by first | (rw [IntKind.wrap_i64] at hz; omega) | (rw [IntKind.wrap_u64] at hz; omega) | omega); clear hz)
  refine ⟨[1, 1], _, WUint_ok _ g b7 0 _ s.bt.toNat (by omega) (by omega) ⟨A, k, cap, xs, rfl, hk, hx, hg⟩, ?_⟩
  clear hk hx hg
  rintro _ h' hw
  rw [if_pos rfl] at hw
  obtain ⟨b8, e8⟩ : ∃ b, b = b7 ++ num s.bt.toNat := ⟨_, rfl⟩
  rw [← e8] at hw
  have l8 : b8.length ≤ b7.length + 40 := by rw [e8, List.length_append]; have := hu (n := s.bt.toNat) (by omega); omega
  obtain ⟨A, k, cap, xs, rfl, hk, hx, hg⟩ := hw
  refine ⟨_, ld 0 rfl rfl, ?_⟩
  refine ⟨[1, 1], _, WText_ok _ g b8 0 _ s.pv (by omega) ⟨A, k, cap, xs, rfl, hk, hx, hg⟩, ?_⟩
  clear hk hx hg
  rintro _ h' hw
  rw [if_pos rfl] at hw
  refine ⟨_, Ent.dropr [_] _, ?_⟩
  have e : bs ++ encP s = b8 ++ num s.pv.length ++ s.pv := by rw [e8, e7, e6, e5, e4, e3, e2, e1]; simp only [encP, List.append_assoc]
  rw [e]; exact hw

theorem sum_ok (R : Rd) (hG : ShaG R) (s : Snap) (hv : Valid s) : Fn Tryd.prog 124 [.agg ⟨s.cells⟩] [] R (fun v h => v = .string ⟨⟨sumP s⟩⟩ ∧ h = []) := by
  have hle := encP_le hv
  refine fn_of_vc mixed tabOk Tryd.func124 rfl (by kernel_rfl) (Nat.le_of_ble_eq_true rfl) ?_
  intro gb
  refine ⟨[], _, NewWriter_ok _, ?_⟩
  rintro _ _ ⟨g, rfl, A, k, cap, xs, rfl, hk, hx, hg⟩
  refine ⟨s.cells, rdBlk 0 rfl, rfl, ?_⟩
  refine ⟨[1, 1], _, write_ok _ g [] _ s hv (by simp) ⟨A, k, cap, xs, rfl, hk, hx, hg⟩, ?_⟩
  clear hk hx hg
  rintro _ _ ⟨A, k, cap, xs, rfl, hk, hx, hg⟩
  rw [List.nil_append] at hk hx
  refine ⟨[1, 1], _, WDone_ok _ g (encP s) 0 _ ⟨A, k, cap, xs, rfl, hk, hx, hg⟩, ?_⟩
  clear hk hx hg
  rintro _ _ ⟨sl, hw, hs, rfl, rfl, ⟨A, k, cap, xs, rfl, -, -, -⟩, ⟨A2, k2, cap2, xs2, rfl, rfl, hk2, hx2, hg2⟩⟩
  have e1 : doneB (encP s) 0 = encP s := by rw [doneB, if_pos ⟨rfl, by omega⟩]
  rw [e1] at hk2 hx2
  subst hk2 hx2
  refine ⟨[3], _, fn_row 0 rfl (callable Tryd.func108 rfl (by kernel_rfl)) fun hcap _ => Fn.frame (h := []) (k := [_]) (Sum_ok _ ((hG.rh _).rh _) (encP s) _ _ (by omega) hcap (SlR.own 0 rfl (by rw [BV_length, Nat.mul_one]) hg2)), ?_⟩
  rintro _ _ ⟨_, rfl, rfl, rfl⟩
  exact ⟨_, Ent.nil _, rfl, rfl⟩

theorem Sum_okS (R : Rd) (hG : ShaG R) (s : Snap) : Fn Tryd.prog 78 [.agg ⟨s.cells⟩] [] R (fun v h => v = .tuple ⟨[.string ⟨⟨if validB s = true then sumP s else []⟩⟩, .int .i64 (if validB s = true then 0 else 1)]⟩ ∧ h = []) := by
  refine fn_of_vc mixed tabOk Tryd.func78 rfl (by kernel_rfl) (Nat.le_of_ble_eq_true rfl) ?_
  intro gb
  refine ⟨s.cells, rdBlk 0 rfl, rfl, ?_⟩
  refine ⟨[], _, valid_ok _ s, ?_⟩
  rintro _ _ ⟨rfl, rfl⟩
  cases hv : validB s
  · repeat (first | (refine ⟨fun h => ?_, fun h => ?_⟩; rotate_left 1; (focus (exfalso; (first | (with_reducible (cases h; done)) | (revert h; simp; done) | (revert h; simp; omega) | (revert h; simp [*]; done)))); clear h) | (refine ⟨fun h => ?_, fun h => ?_⟩; (focus (exfalso; (first | (with_reducible (cases h; done)) | (revert h; simp; done) | (revert h; simp; omega) | (revert h; simp [*]; done)))); clear h))
    exact ⟨_, Ent.nil _, rfl, rfl⟩
  · repeat (first | (refine ⟨fun h => ?_, fun h => ?_⟩; rotate_left 1; (focus (exfalso; (first | (with_reducible (cases h; done)) | (revert h; simp; done) | (revert h; simp; omega) | (revert h; simp [*]; done)))); clear h) | (refine ⟨fun h => ?_, fun h => ?_⟩; (focus (exfalso; (first | (with_reducible (cases h; done)) | (revert h; simp; done) | (revert h; simp; omega) | (revert h; simp [*]; done)))); clear h))
    refine ⟨s.cells, rdBlk 0 rfl, rfl, ?_⟩
    refine ⟨[], _, sum_ok _ (hG.rh _) s (validB_iff.1 hv), ?_⟩
    rintro _ _ ⟨rfl, rfl⟩
    exact ⟨_, Ent.nil _, rfl, rfl⟩

theorem continues_ok (R : Rd) (hG : ShaG R) (s l : Snap) (hq : l.q ≤ 9223372036854775806) (hq0 : -9223372036854775808 ≤ l.q) (there : Bool) (hl : there = true → Valid l) :
    Fn Tryd.prog 127 [.agg ⟨s.cells⟩, .agg ⟨l.cells⟩, .bool there] [] R (fun v h => v = .bool (contB s (if there then some l else .none)) ∧ h = []) := by
  refine fn_of_vc mixed tabOk Tryd.func127 rfl (by kernel_rfl) (Nat.le_of_ble_eq_true rfl) ?_
  intro g1
  intro g2
  cases there
  · repeat (first | (refine ⟨fun h => ?_, fun h => ?_⟩; rotate_left 1; (focus (exfalso; (first | (with_reducible (cases h; done)) | (revert h; simp; done) | (revert h; simp; omega) | (revert h; simp [*]; done)))); clear h) | (refine ⟨fun h => ?_, fun h => ?_⟩; (focus (exfalso; (first | (with_reducible (cases h; done)) | (revert h; simp; done) | (revert h; simp; omega) | (revert h; simp [*]; done)))); clear h))
    refine ⟨_, ld 0 rfl rfl, ?_⟩
    exact ⟨_, Ent.nil _, rfl, rfl⟩
  repeat (first | (refine ⟨fun h => ?_, fun h => ?_⟩; rotate_left 1; (focus (exfalso; (first | (with_reducible (cases h; done)) | (revert h; simp; done) | (revert h; simp; omega) | (revert h; simp [*]; done)))); clear h) | (refine ⟨fun h => ?_, fun h => ?_⟩; (focus (exfalso; (first | (with_reducible (cases h; done)) | (revert h; simp; done) | (revert h; simp; omega) | (revert h; simp [*]; done)))); clear h))
  refine ⟨[0,0], (.q 0 (.q 1 (.q 2 (.q 3 (.q 4 (.q 5 (.q 6 (.q 7 (.q 8 (.q 9 (.q 10 (.q 11 (.q 12 (.q 13 (.q 14 (.q 15 (.q 16 (.one 17 (.q 18 (.q 19 (.q 20 .nil))))))))))))))))))))), by kernel_rfl, ?_⟩
  refine ⟨_, ld 0 rfl rfl, ?_⟩
  refine ⟨_, ld 1 rfl rfl, ?_⟩
  (intro z hz; obtain rfl := wr_i64 hz (by omega) (by omega); clear hz)
  have ec : contB s (if true = true then some l else .none) = (decide (s.q = l.q + 1) && (decide (l.d ≤ s.d) && decide (s.pv = sumP l))) := rfl
  by_cases h1 : s.q = l.q + 1
  case neg =>
    repeat (first | (refine ⟨fun h => ?_, fun h => ?_⟩; rotate_left 1; (focus (exfalso; (first | (with_reducible (cases h; done)) | (revert h; simp; done) | (revert h; simp; omega) | (revert h; simp [*]; done)))); clear h) | (refine ⟨fun h => ?_, fun h => ?_⟩; (focus (exfalso; (first | (with_reducible (cases h; done)) | (revert h; simp; done) | (revert h; simp; omega) | (revert h; simp [*]; done)))); clear h))
    refine ⟨_, Ent.nil _, ?_, rfl⟩
    rw [ec, decide_eq_false h1, Bool.false_and]; rfl
  rw [decide_eq_true h1, Bool.true_and] at ec
  repeat (first | (refine ⟨fun h => ?_, fun h => ?_⟩; rotate_left 1; (focus (exfalso; (first | (with_reducible (cases h; done)) | (revert h; simp; done) | (revert h; simp; omega) | (revert h; simp [*]; done)))); clear h) | (refine ⟨fun h => ?_, fun h => ?_⟩; (focus (exfalso; (first | (with_reducible (cases h; done)) | (revert h; simp; done) | (revert h; simp; omega) | (revert h; simp [*]; done)))); clear h))
  refine ⟨_, ld 0 rfl rfl, ?_⟩
  repeat (first | (refine ⟨fun h => ?_, fun h => ?_⟩; rotate_left 1; (focus (exfalso; (first | (with_reducible (cases h; done)) | (revert h; simp; done) | (revert h; simp; omega) | (revert h; simp [*]; done)))); clear h) | (refine ⟨fun h => ?_, fun h => ?_⟩; (focus (exfalso; (first | (with_reducible (cases h; done)) | (revert h; simp; done) | (revert h; simp; omega) | (revert h; simp [*]; done)))); clear h))
  refine ⟨_, ld 1 rfl rfl, ?_⟩
  by_cases h2 : l.d ≤ s.d
  case neg =>
    repeat (first | (refine ⟨fun h => ?_, fun h => ?_⟩; rotate_left 1; (focus (exfalso; (first | (with_reducible (cases h; done)) | (revert h; simp; done) | (revert h; simp; omega) | (revert h; simp [*]; done)))); clear h) | (refine ⟨fun h => ?_, fun h => ?_⟩; (focus (exfalso; (first | (with_reducible (cases h; done)) | (revert h; simp; done) | (revert h; simp; omega) | (revert h; simp [*]; done)))); clear h))
    refine ⟨_, Ent.nil _, ?_, rfl⟩
    rw [ec, decide_eq_false h2, Bool.false_and]; rfl
  rw [decide_eq_true h2, Bool.true_and] at ec
  repeat (first | (refine ⟨fun h => ?_, fun h => ?_⟩; rotate_left 1; (focus (exfalso; (first | (with_reducible (cases h; done)) | (revert h; simp; done) | (revert h; simp; omega) | (revert h; simp [*]; done)))); clear h) | (refine ⟨fun h => ?_, fun h => ?_⟩; (focus (exfalso; (first | (with_reducible (cases h; done)) | (revert h; simp; done) | (revert h; simp; omega) | (revert h; simp [*]; done)))); clear h))
  refine ⟨_, ld 0 rfl rfl, ?_⟩
  repeat (first | (refine ⟨fun h => ?_, fun h => ?_⟩; rotate_left 1; (focus (exfalso; (first | (with_reducible (cases h; done)) | (revert h; simp; done) | (revert h; simp; omega) | (revert h; simp [*]; done)))); clear h) | (refine ⟨fun h => ?_, fun h => ?_⟩; (focus (exfalso; (first | (with_reducible (cases h; done)) | (revert h; simp; done) | (revert h; simp; omega) | (revert h; simp [*]; done)))); clear h))
  refine ⟨l.cells, rdBlk 1 rfl, rfl, ?_⟩
  repeat (first | (refine ⟨fun h => ?_, fun h => ?_⟩; rotate_left 1; (focus (exfalso; (first | (with_reducible (cases h; done)) | (revert h; simp; done) | (revert h; simp; omega) | (revert h; simp [*]; done)))); clear h) | (refine ⟨fun h => ?_, fun h => ?_⟩; (focus (exfalso; (first | (with_reducible (cases h; done)) | (revert h; simp; done) | (revert h; simp; omega) | (revert h; simp [*]; done)))); clear h))
  refine ⟨[], _, sum_ok _ ((hG.rh _).rh _) l (hl rfl), ?_⟩
  rintro _ _ ⟨rfl, rfl⟩
  repeat (first | (refine ⟨fun h => ?_, fun h => ?_⟩; rotate_left 1; (focus (exfalso; (first | (with_reducible (cases h; done)) | (revert h; simp; done) | (revert h; simp; omega) | (revert h; simp [*]; done)))); clear h) | (refine ⟨fun h => ?_, fun h => ?_⟩; (focus (exfalso; (first | (with_reducible (cases h; done)) | (revert h; simp; done) | (revert h; simp; omega) | (revert h; simp [*]; done)))); clear h))
  refine ⟨_, Ent.nil _, ?_, rfl⟩
  rw [ec]; rfl

end Go.Proofs.YtoddabjacjkjbaaDoor

namespace Go.Proofs.YtoddabjacjkjbaaDoor
open Go Go.RowKit
set_option linter.unusedVariables false

theorem flatAt {α : Type} {c : α → List Value} {sz : Nat} : ∀ {l : List α}, (∀ x ∈ l, (c x).length = sz) → ∀ {i j : Nat} {x : α} {u : Value}, l[i]? = some x → (c x)[j]? = some u → (l.flatMap c)[i * sz + j]? = some u
  | [], _, i, j, x, u, h, _ => by simp at h
  | y :: l, hl, 0, j, x, u, h, hu => by
    simp at h
    subst h
    have := hl y (by simp)
    have hj := (List.getElem?_eq_some_iff.1 hu).1
    rw [List.flatMap_cons, List.getElem?_append_left (by omega), Nat.zero_mul, Nat.zero_add]
    exact hu
  | y :: l, hl, i + 1, j, x, u, h, hu => by
    have := hl y (by simp)
    have hj := (List.getElem?_eq_some_iff.1 hu).1
    rw [List.flatMap_cons, List.getElem?_append_right (by rw [Nat.add_mul]; omega), this, show (i + 1) * sz + j - sz = i * sz + j by rw [Nat.add_mul]; omega]
    exact flatAt (fun z hz => hl z (by simp [hz])) (by simpa using h) hu
theorem slr_at {R : Rd} {α : Type} {c : α → List Value} {sz : Nat} (hsz : ∀ x, (c x).length = sz) (h0 : 0 < sz) {A : Option Addr} {n cap : Nat} {l : List α} (h : SlR R sz (.slice A n cap) n (l.flatMap c)) {i : Nat} {x : α} (hx : l[i]? = some x) : ∃ a, A = some a ∧ ∀ j u, (c x)[j]? = some u → R (a.add (i * sz + j)) u := by
  obtain ⟨_, A', cap', hv, hr⟩ := h
  cases hv
  have h1 : 0 < (c x).length := by rw [hsz]; exact h0
  obtain ⟨a, rfl, _⟩ := hr (i * sz + 0) _ (flatAt (sz := sz) (c := c) (fun x _ => hsz x) hx (j := 0) (List.getElem?_eq_getElem h1))
  refine ⟨a, rfl, fun j u hu => ?_⟩
  obtain ⟨a', ha, hR⟩ := hr (i * sz + j) u (flatAt (sz := sz) (c := c) (fun x _ => hsz x) hx hu)
  cases ha
  exact hR
theorem rdnS {R : Rd} {a : Addr} {i sz : Nat} {vs : List Value} (h : ∀ j u, vs[j]? = some u → R (a.add (i * sz + j)) u) : ∀ j u, vs[j]? = some u → R ((addA a (Int.toNat (i : Int) * sz)).add j) u := by
  intro j u hu
  rw [show Int.toNat (i : Int) * sz = i * sz by simp, ← addA_eq, add_add]
  exact h j u hu
theorem fldS {R : Rd} {a : Addr} {i sz j : Nat} {v : Value} (h : R (a.add (i * sz + j)) v) : R (addA (addA a (Int.toNat (i : Int) * sz)) j) v := by
  rw [show Int.toNat (i : Int) * sz = i * sz by simp, ← addA_eq, ← addA_eq, add_add]
  exact h
theorem Rec.pre (x : Rec) {j : Nat} {u : Value} (h : x.s.cells[j]? = some u) : x.cells[j]? = some u := by
  have hj : j < 10 := (List.getElem?_eq_some_iff.1 h).1
  show (x.s.cells ++ [.bool x.fo, .bool x.he])[j]? = some u
  rw [List.getElem?_append_left hj]; exact h

theorem New_okS (R : Rd) : Fn Tryd.prog 74 [] [] R (fun v h => ∃ g, v = .pointer (some ⟨g, 0, .none⟩) ∧ LogIs g (fun _ => []) h) := by
  refine fn_of_vc mixed tabOk Tryd.func74 rfl (by kernel_rfl) (Nat.le_of_ble_eq_true rfl) ?_
  intro r
  intro g
  refine ⟨logH g r [] 0, (Ent.perm (List.Perm.swap _ _ [])).trans ?_, g, rfl, r, [], 0, ⟨List.nodup_nil, (fun _ h => by cases h), (fun _ h => by cases h), List.nodup_nil, (fun _ h => by cases h)⟩, fun _ => rfl, rfl⟩
  exact (Ent.app (Ent.refl [_, _]) (Ent.rows_mk []))

def lastV (l : List Rec) : Snap := (lastC l).getD Snap.zero
theorem lastV_zero {l : List Rec} (h : l.length = 0) : lastV l = Snap.zero ∧ lastC l = .none := by
  have : l = [] := List.eq_nil_of_length_eq_zero h
  subst this; exact ⟨rfl, rfl⟩
theorem lastV_some {l : List Rec} {x : Rec} (h : l[l.length - 1]? = some x) : lastV l = x.s ∧ lastC l = some x.s := by
  have : l.getLast? = some x := by rw [List.getLast?_eq_getElem?]; exact h
  rw [lastV, lastC, this]; exact ⟨rfl, rfl⟩

theorem last_ok (R : Rd) {g r : Nat} {st : List WR} {c : Nat} (hL : LogR R g r st) (w : Int) (hn : (chainOf st w).length ≤ 1000000) :
    Fn Tryd.prog 123 [.pointer (some ⟨g, 0, .none⟩), .int .i64 w] [logM r st c] R (fun v h => v = .tuple ⟨[.agg ⟨(lastV (chainOf st w)).cells⟩, .bool (lastC (chainOf st w)).isSome]⟩ ∧ h = [logM r st c]) := by
  refine fn_of_vc mixed tabOk Tryd.func123 rfl (by kernel_rfl) (Nat.le_of_ble_eq_true rfl) ?_
  intro g4
  refine ⟨_, .inl hL.m, ?_⟩
  refine ⟨0, rfl, like_ents _ _, ?_⟩
  rintro v b hf
  obtain ⟨A, cap, rfl, hs⟩ := hL.found hf
  generalize hch : chainOf st w = l at *
  refine ⟨fun hb => ?_, fun hb => ?_⟩
  · replace hb := of_decide_eq_true hb
    obtain ⟨e1, e2⟩ := lastV_zero (l := l) (by omega)
    refine ⟨rfl, rfl, 1, rfl, rfl, Nat.le_of_ble_eq_true rfl, ?_⟩
    refine ⟨Snap.zero.cells, rdBlk 1 rfl, rfl, ?_⟩
    exact ⟨_, Ent.drop [_] [_], by rw [e1, e2]; rfl, rfl⟩
  · replace hb := of_decide_eq_false hb
    have h1 : l.length - 1 < l.length := by omega
    have hget := List.getElem?_eq_getElem h1
    generalize l[l.length - 1] = x at hget
    obtain ⟨e1, e2⟩ := lastV_some hget
    obtain ⟨a, rfl, hr⟩ := slr_at (c := Rec.cells) (fun _ => rfl) (by omega) hs hget
    (intro z hz; obtain rfl : z = ((l.length - 1 : Nat) : Int) := (by first | (rw [IntKind.wrap_i64] at hz; omega) | (rw [IntKind.wrap_u64] at hz; omega) | omega); clear hz)
    refine ⟨by omega, by omega, a, rfl, ?_⟩
    refine ⟨x.s.cells, fun j u hu => .inl (rdnS (vs := x.s.cells) (fun j u hu => hr j u (x.pre hu)) j u hu), rfl, ?_⟩
    refine ⟨rfl, rfl, 1, rfl, rfl, Nat.le_of_ble_eq_true rfl, ?_⟩
    refine ⟨x.s.cells, rdBlk 1 rfl, rfl, ?_⟩
    exact ⟨_, Ent.drop [_] [_], by rw [e1, e2]; rfl, rfl⟩

/-! ### the number of records -/
def totalW (st : List WR) : Nat := (st.map fun x => x.l.length).sum
def restW (seen : List Nat) (st : List WR) : Nat := ((st.filter fun x => decide (x.born ∉ seen)).map fun x => x.l.length).sum
def restN (seen : List Nat) (st : List WR) : Nat := (st.filter fun x => decide (x.born ∉ seen)).length

theorem rest_cons (seen : List Nat) (y : WR) (st : List WR) : restW seen (y :: st) = (if y.born ∈ seen then 0 else y.l.length) + restW seen st ∧ restN seen (y :: st) = (if y.born ∈ seen then 0 else 1) + restN seen st := by
  unfold restW restN
  rw [List.filter_cons]
  by_cases h : y.born ∈ seen
  · rw [if_neg (by simpa using h), if_pos h, if_pos h]; omega
  · rw [if_pos (by simpa using h), if_neg h, if_neg h, List.map_cons, List.sum_cons, List.length_cons]; omega
theorem rest_skip {seen : List Nat} {b : Nat} : ∀ {st : List WR}, (∀ x ∈ st, x.born ≠ b) → restW (seen ++ [b]) st = restW seen st ∧ restN (seen ++ [b]) st = restN seen st
  | [], _ => ⟨rfl, rfl⟩
  | y :: st, h => by
    obtain ⟨h1, h2⟩ := rest_skip (seen := seen) (b := b) (st := st) fun x hx => h x (by simp [hx])
    obtain ⟨a1, a2⟩ := rest_cons (seen ++ [b]) y st
    obtain ⟨b1, b2⟩ := rest_cons seen y st
    have hy := h y (by simp)
    have e : (y.born ∈ seen ++ [b]) ↔ y.born ∈ seen := by simp [hy]
    simp only [e] at a1 a2
    rw [a1, a2, b1, b2, h1, h2]; exact ⟨rfl, rfl⟩
theorem rest_step {seen : List Nat} : ∀ {st : List WR} {x : WR}, (st.map WR.born).Nodup → x ∈ st → x.born ∉ seen → restW seen st = x.l.length + restW (seen ++ [x.born]) st ∧ restN seen st = 1 + restN (seen ++ [x.born]) st
  | [], x, _, h, _ => by cases h
  | y :: st, x, hn, h, hs => by
    rw [List.map_cons, List.nodup_cons] at hn
    obtain ⟨a1, a2⟩ := rest_cons (seen ++ [x.born]) y st
    obtain ⟨b1, b2⟩ := rest_cons seen y st
    rcases List.mem_cons.1 h with rfl | h
    · obtain ⟨c1, c2⟩ := rest_skip (seen := seen) (b := x.born) (st := st) fun z hz e => hn.1 (List.mem_map.2 ⟨z, hz, e⟩)
      rw [if_pos (by simp)] at a1 a2
      rw [if_neg hs] at b1 b2
      omega
    · obtain ⟨c1, c2⟩ := rest_step hn.2 h hs
      have hne : y.born ≠ x.born := fun e => hn.1 (by rw [e]; exact List.mem_map.2 ⟨x, h, rfl⟩)
      have e : (y.born ∈ seen ++ [x.born]) ↔ y.born ∈ seen := by simp [hne]
      simp only [e] at a1 a2
      omega
theorem rest_nil (st : List WR) : restW [] st = totalW st := by
  unfold restW totalW
  rw [List.filter_eq_self.2]
  intro x _; simp
theorem rest_all {seen : List Nat} {st : List WR} (h : ∀ x ∈ st, x.born ∈ seen) : restW seen st = 0 := by
  unfold restW
  rw [List.filter_eq_nil_iff.2]
  · rfl
  · intro x hx; simpa using h x hx

theorem born_find {st : List WR} (hn : (st.map WR.born).Nodup) {x : WR} (hx : x ∈ st) : (entsOf st).find? (fun e => e.born == x.born) = some x.entry := by
  induction st with
  | nil => cases hx
  | cons y r ih =>
    rw [List.map_cons, List.nodup_cons] at hn
    show (y.entry :: entsOf r).find? _ = _
    rw [List.find?_cons]
    rcases List.mem_cons.1 hx with rfl | hx
    · have : (x.entry.born == x.born) = true := by simp [WR.entry]
      rw [this]
    · have hne : y.born ≠ x.born := fun e => hn.1 (by rw [e]; exact List.mem_map.2 ⟨x, hx, rfl⟩)
      have : (y.entry.born == x.born) = false := by simp [WR.entry, hne]
      rw [this]
      exact ih hn.2 hx

theorem count_ok (R : Rd) {g r : Nat} {st : List WR} {c : Nat} (hok : LogOk st c) (hL : LogR R g r st) (hn : totalW st ≤ 1000000) :
    Fn Tryd.prog 91 [.pointer (some ⟨g, 0, .none⟩)] [logM r st c] R (fun v h => v = .int .i64 (totalW st) ∧ h = [logM r st c]) := by
  refine fn_of_vc mixed tabOk Tryd.func91 rfl (by kernel_rfl) (Nat.le_of_ble_eq_true rfl) ?_
  refine ⟨_, .inl hL.m, ?_⟩
  refine ⟨0, rfl, fun gi => ?_⟩
  refine ⟨[none, none, none, some 3, none, some 5, none, none, none, none, none, some 11, some 12, some 13, some 14, some 15, some 16, some 17, some 18], [3], Nat × List Nat, fun ⟨n, seen⟩ => n + restW seen st = totalW st, fun ⟨n, _⟩ => [.int .i64 n], fun ⟨_, seen⟩ => [logM r st c, .obj gi (.mapIter (some r) c ⟨seen⟩ c)], fun ⟨_, seen⟩ => restN seen st,
    (0, []), by show 0 + restW [] st = _; rw [rest_nil, Nat.zero_add], ⟨rfl, trivial⟩, Ent.refl _, ?_⟩
  rintro ⟨n, seen⟩ hinv js
  have hinv : n + restW seen st = totalW st := hinv
  refine ⟨1, rfl, 0, rfl, fun e he => ?_, fun e he hns => ?_, fun hall => ?_⟩
  · obtain ⟨x, hx, rfl⟩ := List.mem_map.1 he
    exact ⟨hok.born x hx, hok.born x hx⟩
  · obtain ⟨x, hx, rfl⟩ := List.mem_map.1 he
    have hns : x.born ∉ seen := hns
    obtain ⟨s1, s2⟩ := rest_step hok.bornN hx hns
    repeat (first | (refine ⟨fun h => ?_, fun h => ?_⟩; rotate_left 1; (focus (exfalso; (first | (with_reducible (cases h; done)) | (revert h; simp; done) | (revert h; simp; omega) | (revert h; simp [*]; done)))); clear h) | (refine ⟨fun h => ?_, fun h => ?_⟩; (focus (exfalso; (first | (with_reducible (cases h; done)) | (revert h; simp; done) | (revert h; simp; omega) | (revert h; simp [*]; done)))); clear h))
    refine ⟨1, rfl, x.born, by simp [WR.entry], 0, rfl, rfl, x.entry, born_find hok.bornN hx, ?_⟩
    (intro z hz; obtain rfl : z = ((n + x.l.length : Nat) : Int) := (by first | (rw [IntKind.wrap_i64] at hz; omega) | (rw [IntKind.wrap_u64] at hz; omega) | omega); clear hz)
    exact ⟨rfl, (n + x.l.length, seen ++ [x.born]), by show n + x.l.length + restW (seen ++ [x.born]) st = _; omega, by show restN (seen ++ [x.born]) st < restN seen st; omega, ⟨rfl, trivial⟩, Ent.refl _, rfl⟩
  · have h0 := rest_all (seen := seen) (st := st) fun x hx => hall x.entry (List.mem_map.2 ⟨x, hx, rfl⟩)
    repeat (first | (refine ⟨fun h => ?_, fun h => ?_⟩; rotate_left 1; (focus (exfalso; (first | (with_reducible (cases h; done)) | (revert h; simp; done) | (revert h; simp; omega) | (revert h; simp [*]; done)))); clear h) | (refine ⟨fun h => ?_, fun h => ?_⟩; (focus (exfalso; (first | (with_reducible (cases h; done)) | (revert h; simp; done) | (revert h; simp; omega) | (revert h; simp [*]; done)))); clear h))
    refine ⟨_, Ent.drop [_] [_], ?_, rfl⟩
    show Value.int _ _ = _
    congr 1; omega

theorem found_mid {a b : List WR} {x : WR} {n : Int} {v z : Value} {f : Bool} (hx : x.w = n) (h : ∀ y ∈ a, y.w ≠ n) (hf : foundE (.int .i64 n) (entsOf (a ++ x :: b)) z v f) : v = .slice x.A x.l.length x.cap := by
  rcases hf with ⟨j, hf, _⟩ | ⟨hf, _⟩
  · rw [findE_mid hx h] at hf
    simp only [Option.some.injEq, Prod.mk.injEq] at hf
    exact hf.2.symm
  · rw [findE_mid hx h] at hf; cases hf

theorem find_miss (R : Rd) {g r : Nat} {st : List WR} {c : Nat} (hL : LogR R g r st) (w q : Int) (hn : (chainOf st w).length ≤ 1000000) (hq : q < 1 ∨ ((chainOf st w).length : Int) < q) :
    Fn Tryd.prog 128 [.pointer (some ⟨g, 0, .none⟩), .int .i64 w, .int .i64 q] [logM r st c] R (fun v h => v = .pointer .none ∧ h = [logM r st c]) := by
  refine fn_of_vc mixed tabOk Tryd.func128 rfl (by kernel_rfl) (Nat.le_of_ble_eq_true rfl) ?_
  refine ⟨_, .inl hL.m, ?_⟩
  refine ⟨0, rfl, like_ents _ _, ?_⟩
  rintro v b hf
  obtain ⟨A, cap, rfl, hs⟩ := hL.found hf
  generalize chainOf st w = l at *
  by_cases h1 : q < 1
  · repeat (first | (refine ⟨fun h => ?_, fun h => ?_⟩; rotate_left 1; (focus (exfalso; (first | (with_reducible (cases h; done)) | (revert h; simp; done) | (revert h; simp; omega) | (revert h; simp [*]; done)))); clear h) | (refine ⟨fun h => ?_, fun h => ?_⟩; (focus (exfalso; (first | (with_reducible (cases h; done)) | (revert h; simp; done) | (revert h; simp; omega) | (revert h; simp [*]; done)))); clear h))
    exact ⟨_, Ent.refl _, rfl, rfl⟩
  · have h2 : (l.length : Int) < q := by omega
    repeat (first | (refine ⟨fun h => ?_, fun h => ?_⟩; rotate_left 1; (focus (exfalso; (first | (with_reducible (cases h; done)) | (revert h; simp; done) | (revert h; simp; omega) | (revert h; simp [*]; done)))); clear h) | (refine ⟨fun h => ?_, fun h => ?_⟩; (focus (exfalso; (first | (with_reducible (cases h; done)) | (revert h; simp; done) | (revert h; simp; omega) | (revert h; simp [*]; done)))); clear h))
    exact ⟨_, Ent.refl _, rfl, rfl⟩

theorem find_hit (R : Rd) {g r : Nat} {a b : List WR} {x : WR} {c : Nat} (hm : R ⟨g, 0, .none⟩ (.map (some r))) (w q : Int) (hx : x.w = w) (ha : ∀ y ∈ a, y.w ≠ w) (hn : x.l.length ≤ 1000000) (hq1 : 1 ≤ q) (hq2 : q ≤ x.l.length) {qa : Nat} (hA : x.A = some ⟨qa, 0, .none⟩) :
    Fn Tryd.prog 128 [.pointer (some ⟨g, 0, .none⟩), .int .i64 w, .int .i64 q] [logM r (a ++ x :: b) c] R (fun v h => v = .pointer (some (addA ⟨qa, 0, .none⟩ ((q - 1).toNat * 12))) ∧ h = [logM r (a ++ x :: b) c]) := by
  obtain ⟨i, rfl⟩ : ∃ i : Nat, q = (i : Int) + 1 := ⟨(q - 1).toNat, by omega⟩
  refine fn_of_vc mixed tabOk Tryd.func128 rfl (by kernel_rfl) (Nat.le_of_ble_eq_true rfl) ?_
  refine ⟨_, .inl hm, ?_⟩
  refine ⟨0, rfl, like_ents _ _, ?_⟩
  rintro v f hf
  obtain rfl := found_mid hx ha hf
  rw [hA]
  repeat (first | (refine ⟨fun h => ?_, fun h => ?_⟩; rotate_left 1; (focus (exfalso; (first | (with_reducible (cases h; done)) | (revert h; simp; done) | (revert h; simp; omega) | (revert h; simp [*]; done)))); clear h) | (refine ⟨fun h => ?_, fun h => ?_⟩; (focus (exfalso; (first | (with_reducible (cases h; done)) | (revert h; simp; done) | (revert h; simp; omega) | (revert h; simp [*]; done)))); clear h))
  (intro z hz; obtain rfl : z = ((i : Nat) : Int) := (by first | (rw [IntKind.wrap_i64] at hz; omega) | (rw [IntKind.wrap_u64] at hz; omega) | omega); clear hz)
  refine ⟨by omega, by omega, _, rfl, ?_⟩
  refine ⟨_, Ent.refl _, ?_, rfl⟩
  have e : ((i : Int) + 1 - 1).toNat = i := by omega
  rw [e]; rfl

end Go.Proofs.YtoddabjacjkjbaaDoor

namespace Go.Proofs.YtoddabjacjkjbaaDoor
open Go Go.RowKit
set_option linter.unusedVariables false

set_option maxHeartbeats 1000000 in
theorem Next_ok (R : Rd) (hG : ShaG R) {g r : Nat} {st : List WR} {c : Nat} (hL : LogR R g r st) (w d : Int) (nm : Str) (gn sz fl bt : Int) (hn : (chainOf st w).length ≤ 1000000) (hV : ∀ s, lastC (chainOf st w) = some s → Valid s) :
    Fn Tryd.prog 75 [.pointer (some ⟨g, 0, .none⟩), .int .i64 w, .int .i64 d, .agg ⟨[.string ⟨⟨nm⟩⟩, .int .i64 gn, .int .i64 sz]⟩, .int .i64 fl, .int .i64 bt] [logM r st c] R
      (fun v h => v = .tuple ⟨[.agg ⟨(nextL (lastC (chainOf st w)) w d nm gn sz fl bt).1.cells⟩, .int .i64 (nextL (lastC (chainOf st w)) w d nm gn sz fl bt).2]⟩ ∧ h = [logM r st c]) := by
  refine fn_of_vc mixed tabOk Tryd.func75 rfl (by kernel_rfl) (Nat.le_of_ble_eq_true rfl) ?_
  intro gb
  intro g12
  refine ⟨[.string ⟨⟨nm⟩⟩, .int .i64 gn, .int .i64 sz], rdBlk 1 rfl, rfl, ?_⟩
  intro g14
  refine ⟨rfl, rfl, 3, rfl, rfl, Nat.le_of_ble_eq_true rfl, ?_⟩
  refine ⟨[0], _, last_ok _ (hL.rh _) w hn, ?_⟩
  rintro _ _ ⟨rfl, rfl⟩
  generalize hlv : chainOf st w = l at *
  cases hl : lastC l with
  | none =>
    have hlz : lastV l = Snap.zero := by rw [lastV, hl]; rfl
    rw [hlz]
    intro g15
    refine ⟨rfl, rfl, 4, rfl, rfl, Nat.le_of_ble_eq_true rfl, ?_⟩
    repeat (first | (refine ⟨fun h => ?_, fun h => ?_⟩; rotate_left 1; (focus (exfalso; (first | (with_reducible (cases h; done)) | (revert h; simp; done) | (revert h; simp; omega) | (revert h; simp [*]; done)))); clear h) | (refine ⟨fun h => ?_, fun h => ?_⟩; (focus (exfalso; (first | (with_reducible (cases h; done)) | (revert h; simp; done) | (revert h; simp; omega) | (revert h; simp [*]; done)))); clear h))
    refine ⟨(nextS .none w d nm gn sz fl bt).cells, rdBlk 2 rfl, rfl, ?_⟩
    refine ⟨[], _, valid_ok _ (nextS .none w d nm gn sz fl bt), ?_⟩
    rintro _ _ ⟨rfl, rfl⟩
    cases hv : validB (nextS .none w d nm gn sz fl bt)
    · repeat (first | (refine ⟨fun h => ?_, fun h => ?_⟩; rotate_left 1; (focus (exfalso; (first | (with_reducible (cases h; done)) | (revert h; simp; done) | (revert h; simp; omega) | (revert h; simp [*]; done)))); clear h) | (refine ⟨fun h => ?_, fun h => ?_⟩; (focus (exfalso; (first | (with_reducible (cases h; done)) | (revert h; simp; done) | (revert h; simp; omega) | (revert h; simp [*]; done)))); clear h))
      refine ⟨rfl, rfl, 1, rfl, rfl, Nat.le_of_ble_eq_true rfl, ?_⟩
      refine ⟨Snap.zero.cells, rdBlk 1 rfl, rfl, ?_⟩
      exact ⟨_, (Ent.dropr [_, _, _] [_, _]).trans (Ent.drop [_] [_]), by rw [nextL, hv]; rfl, rfl⟩
    · repeat (first | (refine ⟨fun h => ?_, fun h => ?_⟩; rotate_left 1; (focus (exfalso; (first | (with_reducible (cases h; done)) | (revert h; simp; done) | (revert h; simp; omega) | (revert h; simp [*]; done)))); clear h) | (refine ⟨fun h => ?_, fun h => ?_⟩; (focus (exfalso; (first | (with_reducible (cases h; done)) | (revert h; simp; done) | (revert h; simp; omega) | (revert h; simp [*]; done)))); clear h))
      refine ⟨(nextS .none w d nm gn sz fl bt).cells, rdBlk 2 rfl, rfl, ?_⟩
      refine ⟨rfl, rfl, 1, rfl, rfl, Nat.le_of_ble_eq_true rfl, ?_⟩
      refine ⟨(nextS .none w d nm gn sz fl bt).cells, rdBlk 1 rfl, rfl, ?_⟩
      exact ⟨_, (Ent.dropr [_, _, _] [_, _]).trans (Ent.drop [_] [_]), by rw [nextL, hv]; rfl, rfl⟩
  | some p =>
    have hlz : lastV l = p := by rw [lastV, hl]; rfl
    have hp := hV p hl
    have hpq := hp.q
    rw [hlz]
    intro g15
    refine ⟨rfl, rfl, 4, rfl, rfl, Nat.le_of_ble_eq_true rfl, ?_⟩
    repeat (first | (refine ⟨fun h => ?_, fun h => ?_⟩; rotate_left 1; (focus (exfalso; (first | (with_reducible (cases h; done)) | (revert h; simp; done) | (revert h; simp; omega) | (revert h; simp [*]; done)))); clear h) | (refine ⟨fun h => ?_, fun h => ?_⟩; (focus (exfalso; (first | (with_reducible (cases h; done)) | (revert h; simp; done) | (revert h; simp; omega) | (revert h; simp [*]; done)))); clear h))
    refine ⟨_, ld 4 rfl rfl, ?_⟩
    (intro z hz; obtain rfl := wr_i64 hz (by omega) (by omega); clear hz)
    refine ⟨rfl, rfl, 2, rfl, rfl, Nat.le_of_ble_eq_true rfl, ?_⟩
    refine ⟨p.cells, rdBlk 4 rfl, rfl, ?_⟩
    refine ⟨[], _, sum_ok _ (hG.rh _) p hp, ?_⟩
    rintro _ _ ⟨rfl, rfl⟩
    refine ⟨rfl, rfl, 2, rfl, rfl, Nat.le_of_ble_eq_true rfl, ?_⟩
    refine ⟨(nextS (some p) w d nm gn sz fl bt).cells, rdBlk 2 rfl, rfl, ?_⟩
    refine ⟨[], _, valid_ok _ (nextS (some p) w d nm gn sz fl bt), ?_⟩
    rintro _ _ ⟨rfl, rfl⟩
    cases hv : validB (nextS (some p) w d nm gn sz fl bt)
    · repeat (first | (refine ⟨fun h => ?_, fun h => ?_⟩; rotate_left 1; (focus (exfalso; (first | (with_reducible (cases h; done)) | (revert h; simp; done) | (revert h; simp; omega) | (revert h; simp [*]; done)))); clear h) | (refine ⟨fun h => ?_, fun h => ?_⟩; (focus (exfalso; (first | (with_reducible (cases h; done)) | (revert h; simp; done) | (revert h; simp; omega) | (revert h; simp [*]; done)))); clear h))
      refine ⟨rfl, rfl, 1, rfl, rfl, Nat.le_of_ble_eq_true rfl, ?_⟩
      refine ⟨Snap.zero.cells, rdBlk 1 rfl, rfl, ?_⟩
      exact ⟨_, (Ent.dropr [_, _, _] [_, _]).trans (Ent.drop [_] [_]), by rw [nextL, hv]; rfl, rfl⟩
    repeat (first | (refine ⟨fun h => ?_, fun h => ?_⟩; rotate_left 1; (focus (exfalso; (first | (with_reducible (cases h; done)) | (revert h; simp; done) | (revert h; simp; omega) | (revert h; simp [*]; done)))); clear h) | (refine ⟨fun h => ?_, fun h => ?_⟩; (focus (exfalso; (first | (with_reducible (cases h; done)) | (revert h; simp; done) | (revert h; simp; omega) | (revert h; simp [*]; done)))); clear h))
    refine ⟨_, ld 4 rfl rfl, ?_⟩
    by_cases hd : d < p.d
    · repeat (first | (refine ⟨fun h => ?_, fun h => ?_⟩; rotate_left 1; (focus (exfalso; (first | (with_reducible (cases h; done)) | (revert h; simp; done) | (revert h; simp; omega) | (revert h; simp [*]; done)))); clear h) | (refine ⟨fun h => ?_, fun h => ?_⟩; (focus (exfalso; (first | (with_reducible (cases h; done)) | (revert h; simp; done) | (revert h; simp; omega) | (revert h; simp [*]; done)))); clear h))
      refine ⟨rfl, rfl, 1, rfl, rfl, Nat.le_of_ble_eq_true rfl, ?_⟩
      refine ⟨Snap.zero.cells, rdBlk 1 rfl, rfl, ?_⟩
      refine ⟨_, (Ent.dropr [_, _, _] [_, _]).trans (Ent.drop [_] [_]), ?_, rfl⟩
      have e : nextL (some p) w d nm gn sz fl bt = (Snap.zero, 13) := by
        rw [nextL, if_pos hv]; exact if_pos hd
      rw [e]; rfl
    · repeat (first | (refine ⟨fun h => ?_, fun h => ?_⟩; rotate_left 1; (focus (exfalso; (first | (with_reducible (cases h; done)) | (revert h; simp; done) | (revert h; simp; omega) | (revert h; simp [*]; done)))); clear h) | (refine ⟨fun h => ?_, fun h => ?_⟩; (focus (exfalso; (first | (with_reducible (cases h; done)) | (revert h; simp; done) | (revert h; simp; omega) | (revert h; simp [*]; done)))); clear h))
      refine ⟨(nextS (some p) w d nm gn sz fl bt).cells, rdBlk 2 rfl, rfl, ?_⟩
      refine ⟨rfl, rfl, 1, rfl, rfl, Nat.le_of_ble_eq_true rfl, ?_⟩
      refine ⟨(nextS (some p) w d nm gn sz fl bt).cells, rdBlk 1 rfl, rfl, ?_⟩
      refine ⟨_, (Ent.dropr [_, _, _] [_, _]).trans (Ent.drop [_] [_]), ?_, rfl⟩
      have e : nextL (some p) w d nm gn sz fl bt = (nextS (some p) w d nm gn sz fl bt, 0) := by
        rw [nextL, if_pos hv]; exact if_neg hd
      rw [e]; rfl

/-! ### one writer's row apart -/
def logS (g r : Nat) (a : List WR) (x : WR) (b : List WR) (c : Nat) : Hp := [.blk g 161 [.map (some r)], logM r (a ++ x :: b) c, x.row.ha, .rows (rowsOf (a ++ b))]
theorem rowsOf_mid (a b : List WR) (x : WR) : rowsOf (a ++ x :: b) = rowsOf a ++ x.row :: rowsOf b := by simp [rowsOf]
theorem rowsOf_app (a b : List WR) : rowsOf (a ++ b) = rowsOf a ++ rowsOf b := by simp [rowsOf]
theorem logS_out (g r : Nat) (a : List WR) (x : WR) (b : List WR) (c : Nat) : Ent (logH g r (a ++ x :: b) c) (logS g r a x b c) := by
  unfold logH logS
  rw [rowsOf_mid, rowsOf_app]
  exact Ent.app (Ent.refl [_, _]) (Ent.rows_out (rowsOf a) (rowsOf b) x.row)
theorem logS_in (g r : Nat) (a : List WR) (x : WR) (b : List WR) (c : Nat) : Ent (logS g r a x b c) (logH g r (a ++ x :: b) c) := by
  unfold logH logS
  rw [rowsOf_mid, rowsOf_app]
  exact Ent.app (Ent.refl [_, _]) (Ent.rows_in (rowsOf a) (rowsOf b) x.row)

theorem logR_split {R : Rd} {h : Hp} (i j k : Nat) {g r : Nat} {t : TypeId} {a b : List WR} {x : WR} {c : Nat} (hok : LogOk (a ++ x :: b) c) (hi : h[i]? = some (.blk g t [.map (some r)])) (hj : h[j]? = some x.row.ha) (hk : h[k]? = some (.rows (rowsOf (a ++ b)))) : LogR (RH R h) g r (a ++ x :: b) := by
  refine ⟨ld i hi rfl, fun y hy => ⟨recs_length _, y.A, y.cap, rfl, fun m u hu => ?_⟩⟩
  have hm := (List.getElem?_eq_some_iff.1 hu).1
  have hl := recs_length y.l
  obtain ⟨q, hq⟩ := growA (hok.gr y hy) (by omega)
  refine ⟨⟨q, 0, .none⟩, hq, ?_⟩
  rw [add_zero_addr]
  by_cases hyx : y = x
  · subst hyx
    refine .inr ⟨_, List.mem_of_getElem? hj, ?_⟩
    show rowCell y.A (recs y.l) _ _
    rw [hq]
    exact ⟨rfl, rfl, hu⟩
  · have hy2 : y ∈ a ++ b := by
      rcases List.mem_append.1 hy with hy | hy
      · exact List.mem_append_left _ hy
      · rcases List.mem_cons.1 hy with hy | hy
        · exact absurd hy hyx
        · exact List.mem_append_right _ hy
    refine ldrows k hk (List.mem_map.2 ⟨y, hy2, rfl⟩) ?_
    show rowCell y.A (recs y.l) _ _
    rw [hq]
    exact ⟨rfl, rfl, hu⟩

/-- The cells of a record in the row apart. -/
theorem rec_own {R : Rd} {h : Hp} (j : Nat) {x : WR} {q : Nat} (hA : x.A = some ⟨q, 0, .none⟩) (hj : h[j]? = some x.row.ha) {i : Nat} {y : Rec} (hy : x.l[i]? = some y) : ∀ k u, y.cells[k]? = some u → RH R h ((⟨q, 0, .none⟩ : Addr).add (i * 12 + k)) u := by
  intro k u hu
  rw [add_zero_addr]
  refine .inr ⟨_, List.mem_of_getElem? hj, ?_⟩
  show rowCell x.A (recs x.l) _ _
  rw [hA]
  exact ⟨rfl, rfl, flatAt (c := Rec.cells) (fun _ _ => rfl) hy hu⟩

theorem upd_mid {a b : List WR} {x : WR} {n : Int} {A : Option Addr} {m cap : Nat} {l : List Rec} {c : Nat} {es' : List MapEntry} {c' : Nat} (hx : x.w = n) (h : ∀ y ∈ a, y.w ≠ n) (hm : m = l.length) (hu : updE (.int .i64 n) (.slice A m cap) (entsOf (a ++ x :: b)) c es' c') :
    es' = entsOf (a ++ { x with A := A, cap := cap, l := l } :: b) ∧ c' = c := by
  subst hm
  rcases hu with ⟨j, v, hf, he, hc⟩ | ⟨hf, _⟩
  · rw [findE_mid hx h] at hf
    simp only [Option.some.injEq, Prod.mk.injEq, Nat.zero_add] at hf
    rw [he, ← hf.1, setE_mid hx]; exact ⟨rfl, hc⟩
  · rw [findE_mid hx h] at hf; cases hf
theorem upd_new {st : List WR} {n : Int} {A : Option Addr} {m cap : Nat} {l : List Rec} {c : Nat} {es' : List MapEntry} {c' : Nat} (h : ∀ y ∈ st, y.w ≠ n) (hm : m = l.length) (hu : updE (.int .i64 n) (.slice A m cap) (entsOf st) c es' c') :
    es' = entsOf (st ++ [⟨n, A, cap, c, l⟩]) ∧ c' = c + 1 := by
  subst hm
  rcases hu with ⟨j, v, hf, _⟩ | ⟨_, he, hc⟩
  · rw [findE_none h] at hf; cases hf
  · rw [he]; exact ⟨by simp [entsOf, WR.entry], hc⟩
theorem LogOk.set {a b : List WR} {x : WR} {c : Nat} (h : LogOk (a ++ x :: b) c) {A : Option Addr} {cap : Nat} {l : List Rec} (hg : grow l.length A) : LogOk (a ++ { x with A := A, cap := cap, l := l } :: b) c := by
  obtain ⟨h1, h2, h3, h4, h5⟩ := h
  refine ⟨by simpa using h1, fun y hy => ?_, fun y hy => ?_, by simpa using h4, fun y hy => ?_⟩
  all_goals
    rcases List.mem_append.1 hy with hy | hy
    · first | exact h2 y (List.mem_append_left _ hy) | exact h3 y (List.mem_append_left _ hy) | exact h5 y (List.mem_append_left _ hy)
    · rcases List.mem_cons.1 hy with rfl | hy
      · first | exact h2 x (by simp) | exact h3 x (by simp) | exact hg
      · first | exact h2 y (by simp [hy]) | exact h3 y (by simp [hy]) | exact h5 y (by simp [hy])
theorem LogOk.new {st : List WR} {c : Nat} (h : LogOk st c) {n : Int} (hn : 0 ≤ n ∧ n ≤ 11) (hx : ∀ y ∈ st, y.w ≠ n) {A : Option Addr} {cap : Nat} {l : List Rec} (hg : grow l.length A) : LogOk (st ++ [⟨n, A, cap, c, l⟩]) (c + 1) := by
  obtain ⟨h1, h2, h3, h4, h5⟩ := h
  refine ⟨?_, fun y hy => ?_, fun y hy => ?_, ?_, fun y hy => ?_⟩
  · rw [List.map_append, List.nodup_append]
    refine ⟨h1, by simp, fun u hu v hv e => ?_⟩
    obtain ⟨y, hy, rfl⟩ := List.mem_map.1 hu
    simp at hv
    exact hx y hy (by rw [e, hv])
  · rcases List.mem_append.1 hy with hy | hy
    · exact h2 y hy
    · rw [List.mem_singleton.1 hy]; exact hn
  · rcases List.mem_append.1 hy with hy | hy
    · have := h3 y hy; omega
    · rw [List.mem_singleton.1 hy]; exact Nat.lt_succ_self _
  · rw [List.map_append, List.nodup_append]
    refine ⟨h4, by simp, fun u hu v hv e => ?_⟩
    obtain ⟨y, hy, rfl⟩ := List.mem_map.1 hu
    simp at hv
    have := h3 y hy
    omega
  · rcases List.mem_append.1 hy with hy | hy
    · exact h5 y hy
    · rw [List.mem_singleton.1 hy]; exact hg

end Go.Proofs.YtoddabjacjkjbaaDoor

namespace Go.Proofs.YtoddabjacjkjbaaDoor
open Go Go.RowKit
set_option linter.unusedVariables false

/-- Parts of the memory, in whatever order. -/
theorem Ent.pick (is : List Nat) {h hs : Hp} (hp : pickK is h fun a _ => a = hs) : Ent h hs := by
  obtain ⟨a, rest, perm, e⟩ := pickK_sound _ _ _ hp
  subst e
  exact (Ent.perm perm).trans (Ent.drop a rest)

/-- The error of an addition to a writer's records, 'n' records being there in all. -/
def addE (l : List Rec) (n : Nat) (s : Snap) : Int :=
  if validB s = true then
    (if s.q ≤ l.length then
      (match l[(s.q - 1).toNat]? with
      | some x => if x.s = s.bare then 5 else 13
      | .none => 13)
    else if (l.length : Int) + 1 < s.q then 6
    else if contB s (lastC l) = true then (if 4096 ≤ n then 7 else 0)
    else 13)
  else 1

theorem cont_last (s : Snap) (l : List Rec) : contB s (if (lastC l).isSome = true then some (lastV l) else .none) = contB s (lastC l) := by
  unfold lastV
  cases lastC l <;> rfl

set_option maxRecDepth 100000 in
set_option maxHeartbeats 4000000 in
theorem Add_old (R : Rd) (hG : ShaG R) {g r : Nat} {a b : List WR} {x : WR} {c : Nat} (s : Snap) (hok : LogOk (a ++ x :: b) c) (hx : x.w = s.w) (ha : ∀ y ∈ a, y.w ≠ s.w) (hn : x.l.length ≤ 1000000) (htot : totalW (a ++ x :: b) ≤ 1000000) (hs : s.Ok) (hV : ∀ p, lastC x.l = some p → Valid p) :
    Fn Tryd.prog 77 [.pointer (some ⟨g, 0, .none⟩), .agg ⟨s.cells⟩] (logS g r a x b c) R (fun v h => v = .int .i64 (addE x.l (totalW (a ++ x :: b)) s) ∧
      ((addE x.l (totalW (a ++ x :: b)) s ≠ 0 ∧ h = logS g r a x b c) ∨ (addE x.l (totalW (a ++ x :: b)) s = 0 ∧ ∃ A cap, grow (x.l ++ [(⟨s.bare, false, s.hd⟩ : Rec)]).length A ∧ h = logS g r a { x with A := A, cap := cap, l := x.l ++ [(⟨s.bare, false, s.hd⟩ : Rec)] } b c))) := by
  have hML := maxLen_eq
  have hch : chainOf (a ++ x :: b) s.w = x.l := chainOf_mid hx ha
  have hq1 := hs.q1
  have hq2 := hs.q2
  refine fn_of_vc mixed tabOk Tryd.func77 rfl (by kernel_rfl) (Nat.le_of_ble_eq_true rfl) ?_
  intro gb
  refine ⟨s.cells, rdBlk 4 rfl, rfl, ?_⟩
  refine ⟨[], _, valid_ok _ s, ?_⟩
  rintro _ _ ⟨rfl, rfl⟩
  cases hv : validB s
  · have e : addE x.l (totalW (a ++ x :: b)) s = 1 := by unfold addE; rw [hv]; rfl
    repeat (first | (refine ⟨fun h => ?_, fun h => ?_⟩; rotate_left 1; (focus (exfalso; (first | (with_reducible (cases h; done)) | (revert h; simp; done) | (revert h; simp; omega) | (revert h; simp [*]; done)))); clear h) | (refine ⟨fun h => ?_, fun h => ?_⟩; (focus (exfalso; (first | (with_reducible (cases h; done)) | (revert h; simp; done) | (revert h; simp; omega) | (revert h; simp [*]; done)))); clear h))
    exact ⟨_, Ent.drop (logS g r a x b c) [_], by rw [e]; rfl, .inl ⟨by rw [e]; decide, rfl⟩⟩
  have hva := (validB_iff.1 hv).q
  repeat (first | (refine ⟨fun h => ?_, fun h => ?_⟩; rotate_left 1; (focus (exfalso; (first | (with_reducible (cases h; done)) | (revert h; simp; done) | (revert h; simp; omega) | (revert h; simp [*]; done)))); clear h) | (refine ⟨fun h => ?_, fun h => ?_⟩; (focus (exfalso; (first | (with_reducible (cases h; done)) | (revert h; simp; done) | (revert h; simp; omega) | (revert h; simp [*]; done)))); clear h))
  refine ⟨[0,3], (.q 0 (.q 1 (.q 2 (.q 3 (.q 4 (.q 5 (.one 6 (.q 7 .nil)))))))), by kernel_rfl, ?_⟩
  refine ⟨_, ld 0 rfl rfl, ?_⟩
  refine ⟨_, ld 1 rfl rfl, ?_⟩
  refine ⟨0, rfl, like_ents _ _, ?_⟩
  rintro v f hf
  obtain rfl := found_mid hx ha hf
  clear hf
  refine ⟨_, ld 1 rfl rfl, ?_⟩
  by_cases h1 : s.q ≤ (x.l.length : Int)
  · obtain ⟨i, hi⟩ : ∃ i : Nat, s.q = (i : Int) + 1 := ⟨(s.q - 1).toNat, by omega⟩
    have hil : i < x.l.length := by omega
    have hget := List.getElem?_eq_getElem hil
    generalize x.l[i] = y at hget
    obtain ⟨qa, hA⟩ := growA (hok.gr x (by simp)) (by omega)
    have hin : (s.q - 1).toNat = i := by omega
    have e0 : addE x.l (totalW (a ++ x :: b)) s = if y.s = s.bare then 5 else 13 := by
      unfold addE; rw [if_pos hv, if_pos h1, hin, hget]
    repeat (first | (refine ⟨fun h => ?_, fun h => ?_⟩; rotate_left 1; (focus (exfalso; (first | (with_reducible (cases h; done)) | (revert h; simp; done) | (revert h; simp; omega) | (revert h; simp [*]; done)))); clear h) | (refine ⟨fun h => ?_, fun h => ?_⟩; (focus (exfalso; (first | (with_reducible (cases h; done)) | (revert h; simp; done) | (revert h; simp; omega) | (revert h; simp [*]; done)))); clear h))
    refine ⟨[1,2], (.q 0 (.q 1 (.q 2 (.q 3 (.q 4 (.q 5 (.q 6 (.q 7 (.one 8 (.q 9 .nil)))))))))), by kernel_rfl, ?_⟩
    refine ⟨_, ld 0 rfl rfl, ?_⟩
    (intro z hz; obtain rfl : z = ((i : Nat) : Int) := (by first | (rw [IntKind.wrap_i64] at hz; omega) | (rw [IntKind.wrap_u64] at hz; omega) | omega); clear hz)
    refine ⟨by omega, by omega, _, hA, ?_⟩
    refine ⟨y.s.cells, fun j u hu => rdnS (vs := y.s.cells) (fun j u hu => rec_own (R := R) (h := [.blk gb 140 s.cells, x.row.ha]) 1 hA rfl hget j u (y.pre hu)) j u hu, rfl, ?_⟩
    refine ⟨s.cells, rdBlk 0 rfl, rfl, ?_⟩
    refine ⟨[], _, bare_ok _ s, ?_⟩
    rintro _ _ ⟨rfl, rfl⟩
    intro e he
    have he2 : e = true ↔ y.s = s.bare := he.trans Snap.cells_iff
    cases e
    · have e1 : addE x.l (totalW (a ++ x :: b)) s = 13 := by rw [e0, if_neg (fun h => by have := he2.2 h; cases this)]
      repeat (first | (refine ⟨fun h => ?_, fun h => ?_⟩; rotate_left 1; (focus (exfalso; (first | (with_reducible (cases h; done)) | (revert h; simp; done) | (revert h; simp; omega) | (revert h; simp [*]; done)))); clear h) | (refine ⟨fun h => ?_, fun h => ?_⟩; (focus (exfalso; (first | (with_reducible (cases h; done)) | (revert h; simp; done) | (revert h; simp; omega) | (revert h; simp [*]; done)))); clear h))
      exact ⟨logS g r a x b c, Ent.pick [2, 2, 1, 1] rfl, by rw [e1]; rfl, .inl ⟨by rw [e1]; decide, rfl⟩⟩
    · have e1 : addE x.l (totalW (a ++ x :: b)) s = 5 := by rw [e0, if_pos (he2.1 rfl)]
      repeat (first | (refine ⟨fun h => ?_, fun h => ?_⟩; rotate_left 1; (focus (exfalso; (first | (with_reducible (cases h; done)) | (revert h; simp; done) | (revert h; simp; omega) | (revert h; simp [*]; done)))); clear h) | (refine ⟨fun h => ?_, fun h => ?_⟩; (focus (exfalso; (first | (with_reducible (cases h; done)) | (revert h; simp; done) | (revert h; simp; omega) | (revert h; simp [*]; done)))); clear h))
      exact ⟨logS g r a x b c, Ent.pick [2, 2, 1, 1] rfl, by rw [e1]; rfl, .inl ⟨by rw [e1]; decide, rfl⟩⟩
  repeat (first | (refine ⟨fun h => ?_, fun h => ?_⟩; rotate_left 1; (focus (exfalso; (first | (with_reducible (cases h; done)) | (revert h; simp; done) | (revert h; simp; omega) | (revert h; simp [*]; done)))); clear h) | (refine ⟨fun h => ?_, fun h => ?_⟩; (focus (exfalso; (first | (with_reducible (cases h; done)) | (revert h; simp; done) | (revert h; simp; omega) | (revert h; simp [*]; done)))); clear h))
  refine ⟨_, ld 1 rfl rfl, ?_⟩
  (intro z hz; obtain rfl : z = ((x.l.length + 1 : Nat) : Int) := (by first | (rw [IntKind.wrap_i64] at hz; omega) | (rw [IntKind.wrap_u64] at hz; omega) | omega); clear hz)
  by_cases h2 : (x.l.length : Int) + 1 < s.q
  · have e1 : addE x.l (totalW (a ++ x :: b)) s = 6 := by unfold addE; rw [if_pos hv, if_neg h1, if_pos h2]
    repeat (first | (refine ⟨fun h => ?_, fun h => ?_⟩; rotate_left 1; (focus (exfalso; (first | (with_reducible (cases h; done)) | (revert h; simp; done) | (revert h; simp; omega) | (revert h; simp [*]; done)))); clear h) | (refine ⟨fun h => ?_, fun h => ?_⟩; (focus (exfalso; (first | (with_reducible (cases h; done)) | (revert h; simp; done) | (revert h; simp; omega) | (revert h; simp [*]; done)))); clear h))
    exact ⟨logS g r a x b c, Ent.pick [0, 1, 1, 1] rfl, by rw [e1]; rfl, .inl ⟨by rw [e1]; decide, rfl⟩⟩
  have e0 : addE x.l (totalW (a ++ x :: b)) s = if contB s (lastC x.l) = true then (if 4096 ≤ totalW (a ++ x :: b) then 7 else 0) else 13 := by
    unfold addE; rw [if_pos hv, if_neg h1, if_neg h2]
  repeat (first | (refine ⟨fun h => ?_, fun h => ?_⟩; rotate_left 1; (focus (exfalso; (first | (with_reducible (cases h; done)) | (revert h; simp; done) | (revert h; simp; omega) | (revert h; simp [*]; done)))); clear h) | (refine ⟨fun h => ?_, fun h => ?_⟩; (focus (exfalso; (first | (with_reducible (cases h; done)) | (revert h; simp; done) | (revert h; simp; omega) | (revert h; simp [*]; done)))); clear h))
  refine ⟨_, ld 1 rfl rfl, ?_⟩
  refine ⟨[2], _, last_ok _ (logR_split (R := R) (h := [.blk g 161 [.map (some r)], .blk gb 140 s.cells, x.row.ha, .rows (rowsOf (a ++ b))]) 0 2 3 hok rfl rfl rfl) s.w (by rw [hch]; exact hn), ?_⟩
  rintro _ _ ⟨rfl, rfl⟩
  rw [hch]
  intro g6
  refine ⟨rfl, rfl, 5, rfl, rfl, Nat.le_of_ble_eq_true rfl, ?_⟩
  refine ⟨s.cells, rdBlk 1 rfl, rfl, ?_⟩
  refine ⟨(lastV x.l).cells, rdBlk 5 rfl, rfl, ?_⟩
  have hlq : (lastV x.l).q ≤ 9223372036854775806 ∧ -9223372036854775808 ≤ (lastV x.l).q ∧ ((lastC x.l).isSome = true → Valid (lastV x.l)) := by
    unfold lastV
    cases hl : lastC x.l with
    | none => exact ⟨by show (0 : Int) ≤ _; omega, by show _ ≤ (0 : Int); omega, fun h => by cases h⟩
    | some p => have := (hV p hl).q; exact ⟨by show p.q ≤ _; omega, by show _ ≤ p.q; omega, fun _ => hV p hl⟩
  refine ⟨[], _, continues_ok _ (hG.rh _) s (lastV x.l) hlq.1 hlq.2.1 _ hlq.2.2, ?_⟩
  rintro _ _ ⟨rfl, rfl⟩
  rw [cont_last]
  cases hc : contB s (lastC x.l)
  · have e1 : addE x.l (totalW (a ++ x :: b)) s = 13 := by rw [e0, hc]; rfl
    repeat (first | (refine ⟨fun h => ?_, fun h => ?_⟩; rotate_left 1; (focus (exfalso; (first | (with_reducible (cases h; done)) | (revert h; simp; done) | (revert h; simp; omega) | (revert h; simp [*]; done)))); clear h) | (refine ⟨fun h => ?_, fun h => ?_⟩; (focus (exfalso; (first | (with_reducible (cases h; done)) | (revert h; simp; done) | (revert h; simp; omega) | (revert h; simp [*]; done)))); clear h))
    exact ⟨logS g r a x b c, Ent.pick [0, 3, 1, 1] rfl, by rw [e1]; rfl, .inl ⟨by rw [e1]; decide, rfl⟩⟩
  rw [if_pos hc] at e0
  repeat (first | (refine ⟨fun h => ?_, fun h => ?_⟩; rotate_left 1; (focus (exfalso; (first | (with_reducible (cases h; done)) | (revert h; simp; done) | (revert h; simp; omega) | (revert h; simp [*]; done)))); clear h) | (refine ⟨fun h => ?_, fun h => ?_⟩; (focus (exfalso; (first | (with_reducible (cases h; done)) | (revert h; simp; done) | (revert h; simp; omega) | (revert h; simp [*]; done)))); clear h))
  refine ⟨[4], _, count_ok _ hok (logR_split (R := R) (h := [.blk g 161 [.map (some r)], .blk gb 140 s.cells, x.row.ha, .rows (rowsOf (a ++ b)), .blk g6 140 (lastV x.l).cells]) 0 2 3 hok rfl rfl rfl) htot, ?_⟩
  rintro _ _ ⟨rfl, rfl⟩
  by_cases h3 : (4096 : Int) ≤ totalW (a ++ x :: b)
  · have e1 : addE x.l (totalW (a ++ x :: b)) s = 7 := by rw [e0, if_pos (by omega)]
    generalize totalW (a ++ x :: b) = n at *
    repeat (first | (refine ⟨fun h => ?_, fun h => ?_⟩; rotate_left 1; (focus (exfalso; (first | (with_reducible (cases h; done)) | (revert h; simp; done) | (revert h; simp; omega) | (revert h; simp [*]; done)))); clear h) | (refine ⟨fun h => ?_, fun h => ?_⟩; (focus (exfalso; (first | (with_reducible (cases h; done)) | (revert h; simp; done) | (revert h; simp; omega) | (revert h; simp [*]; done)))); clear h))
    exact ⟨logS g r a x b c, Ent.pick [0, 4, 1, 1] rfl, by rw [e1]; rfl, .inl ⟨by rw [e1]; decide, rfl⟩⟩
  have e1 : addE x.l (totalW (a ++ x :: b)) s = 0 := by rw [e0, if_neg (by omega)]
  rw [e1]
  generalize totalW (a ++ x :: b) = n at *
  repeat (first | (refine ⟨fun h => ?_, fun h => ?_⟩; rotate_left 1; (focus (exfalso; (first | (with_reducible (cases h; done)) | (revert h; simp; done) | (revert h; simp; omega) | (revert h; simp [*]; done)))); clear h) | (refine ⟨fun h => ?_, fun h => ?_⟩; (focus (exfalso; (first | (with_reducible (cases h; done)) | (revert h; simp; done) | (revert h; simp; omega) | (revert h; simp [*]; done)))); clear h))
  refine ⟨[0,0], (.q 0 (.q 1 (.q 2 (.q 3 (.q 4 (.q 5 (.q 6 (.q 7 (.q 9 (.q 10 (.one 8 (.q 11 (.one 12 (.one 13 (.fin 14))))))))))))))), by kernel_rfl, ?_⟩
  refine ⟨_, ld 0 rfl rfl, ?_⟩
  refine ⟨_, ld 1 rfl rfl, ?_⟩
  refine ⟨s.cells, rdBlk 1 rfl, rfl, ?_⟩
  refine ⟨_, ld 1 rfl rfl, ?_⟩
  refine ⟨[], _, bare_ok _ s, ?_⟩
  rintro _ _ ⟨rfl, rfl⟩
  refine ⟨rfl, fun g7 => ?_⟩
  refine ⟨(⟨s.bare, false, s.hd⟩ : Rec).cells, rfl, rdRow 4 rfl, rfl, by show (_ + _) * 104 ≤ _; omega, by omega, .inr ⟨0, rfl, rfl, rfl, rfl, rfl, rfl, fun A' cap' hg' => ?_⟩⟩
  refine ⟨5, rfl, like_ents _ _, ?_⟩
  rintro es' c' hu
  obtain ⟨rfl, hcc⟩ := upd_mid (l := x.l ++ [⟨s.bare, false, s.hd⟩]) hx ha (by rw [List.length_append]; rfl) hu
  replace hcc := hcc.symm
  subst hcc
  have hrow : ({ x with A := A', cap := cap', l := x.l ++ [⟨s.bare, false, s.hd⟩] } : WR).row.ha = .row A' (x.l.length + 1) cap' 164 12 (recs x.l ++ (⟨s.bare, false, s.hd⟩ : Rec).cells) (0, 0) := by
    show HA.row A' (x.l ++ [_]).length cap' _ 12 (recs (x.l ++ [_])) _ = _
    rw [recs_snoc, List.length_append]; rfl
  refine ⟨logS g r a { x with A := A', cap := cap', l := x.l ++ [⟨s.bare, false, s.hd⟩] } b c, ?_, rfl, .inr ⟨rfl, A', cap', by rw [List.length_append]; exact hg', rfl⟩⟩
  unfold logS
  rw [hrow]
  exact Ent.pick [0, 4, 1, 1] rfl


set_option maxRecDepth 100000 in
set_option maxHeartbeats 4000000 in
theorem Add_new (R : Rd) (hG : ShaG R) {g r : Nat} {st : List WR} {c : Nat} (s : Snap) (hok : LogOk st c) (hx : ∀ y ∈ st, y.w ≠ s.w) (htot : totalW st ≤ 1000000) (hs : s.Ok) :
    Fn Tryd.prog 77 [.pointer (some ⟨g, 0, .none⟩), .agg ⟨s.cells⟩] (logH g r st c) R (fun v h => v = .int .i64 (addE [] (totalW st) s) ∧
      ((addE [] (totalW st) s ≠ 0 ∧ h = logH g r st c) ∨ (addE [] (totalW st) s = 0 ∧ ∃ A cap, grow [(⟨s.bare, false, s.hd⟩ : Rec)].length A ∧ h = logH g r (st ++ [⟨s.w, A, cap, c, [(⟨s.bare, false, s.hd⟩ : Rec)]⟩]) (c + 1)))) := by
  have hML := maxLen_eq
  have hch : chainOf st s.w = [] := chainOf_none hx
  have hq1 := hs.q1
  have hq2 := hs.q2
  refine fn_of_vc mixed tabOk Tryd.func77 rfl (by kernel_rfl) (Nat.le_of_ble_eq_true rfl) ?_
  intro gb
  refine ⟨s.cells, rdBlk 3 rfl, rfl, ?_⟩
  refine ⟨[], _, valid_ok _ s, ?_⟩
  rintro _ _ ⟨rfl, rfl⟩
  cases hv : validB s
  · have e : addE [] (totalW st) s = 1 := by unfold addE; rw [hv]; rfl
    repeat (first | (refine ⟨fun h => ?_, fun h => ?_⟩; rotate_left 1; (focus (exfalso; (first | (with_reducible (cases h; done)) | (revert h; simp; done) | (revert h; simp; omega) | (revert h; simp [*]; done)))); clear h) | (refine ⟨fun h => ?_, fun h => ?_⟩; (focus (exfalso; (first | (with_reducible (cases h; done)) | (revert h; simp; done) | (revert h; simp; omega) | (revert h; simp [*]; done)))); clear h))
    exact ⟨_, Ent.drop (logH g r st c) [_], by rw [e]; rfl, .inl ⟨by rw [e]; decide, rfl⟩⟩
  have hva := (validB_iff.1 hv).q
  repeat (first | (refine ⟨fun h => ?_, fun h => ?_⟩; rotate_left 1; (focus (exfalso; (first | (with_reducible (cases h; done)) | (revert h; simp; done) | (revert h; simp; omega) | (revert h; simp [*]; done)))); clear h) | (refine ⟨fun h => ?_, fun h => ?_⟩; (focus (exfalso; (first | (with_reducible (cases h; done)) | (revert h; simp; done) | (revert h; simp; omega) | (revert h; simp [*]; done)))); clear h))
  refine ⟨[0,2], (.q 0 (.q 1 (.q 2 (.q 3 (.q 4 (.q 5 (.one 6 (.q 7 .nil)))))))), by kernel_rfl, ?_⟩
  refine ⟨_, ld 0 rfl rfl, ?_⟩
  refine ⟨_, ld 1 rfl rfl, ?_⟩
  refine ⟨0, rfl, like_ents _ _, ?_⟩
  rintro v f hf
  have hvn : v = .slice .none 0 0 := by
    rcases hf with ⟨j, hf, _⟩ | ⟨_, rfl, _⟩
    · rw [findE_none hx] at hf; cases hf
    · rfl
  subst hvn
  clear hf
  refine ⟨_, ld 1 rfl rfl, ?_⟩
  have h1 : ¬ s.q ≤ ((0 : Nat) : Int) := by omega
  repeat (first | (refine ⟨fun h => ?_, fun h => ?_⟩; rotate_left 1; (focus (exfalso; (first | (with_reducible (cases h; done)) | (revert h; simp; done) | (revert h; simp; omega) | (revert h; simp [*]; done)))); clear h) | (refine ⟨fun h => ?_, fun h => ?_⟩; (focus (exfalso; (first | (with_reducible (cases h; done)) | (revert h; simp; done) | (revert h; simp; omega) | (revert h; simp [*]; done)))); clear h))
  refine ⟨_, ld 1 rfl rfl, ?_⟩
  (intro z hz; obtain rfl : z = ((0 + 1 : Nat) : Int) := (by first | (rw [IntKind.wrap_i64] at hz; omega) | (rw [IntKind.wrap_u64] at hz; omega) | omega); clear hz)
  by_cases h2 : (((0 : Nat) + 1 : Nat) : Int) < s.q
  · have e1 : addE [] (totalW st) s = 6 := by unfold addE; rw [if_pos hv, if_neg (show ¬ s.q ≤ (([] : List Rec).length : Int) from h1), if_pos (show (([] : List Rec).length : Int) + 1 < s.q from h2)]
    repeat (first | (refine ⟨fun h => ?_, fun h => ?_⟩; rotate_left 1; (focus (exfalso; (first | (with_reducible (cases h; done)) | (revert h; simp; done) | (revert h; simp; omega) | (revert h; simp [*]; done)))); clear h) | (refine ⟨fun h => ?_, fun h => ?_⟩; (focus (exfalso; (first | (with_reducible (cases h; done)) | (revert h; simp; done) | (revert h; simp; omega) | (revert h; simp [*]; done)))); clear h))
    exact ⟨logH g r st c, Ent.pick [0, 1, 1] rfl, by rw [e1]; rfl, .inl ⟨by rw [e1]; decide, rfl⟩⟩
  have hc : contB s (lastC []) = true := decide_eq_true (by omega)
  have e0 : addE [] (totalW st) s = if 4096 ≤ totalW st then 7 else 0 := by
    unfold addE; rw [if_pos hv, if_neg (show ¬ s.q ≤ (([] : List Rec).length : Int) from h1), if_neg (show ¬ (([] : List Rec).length : Int) + 1 < s.q from h2), if_pos hc]
  repeat (first | (refine ⟨fun h => ?_, fun h => ?_⟩; rotate_left 1; (focus (exfalso; (first | (with_reducible (cases h; done)) | (revert h; simp; done) | (revert h; simp; omega) | (revert h; simp [*]; done)))); clear h) | (refine ⟨fun h => ?_, fun h => ?_⟩; (focus (exfalso; (first | (with_reducible (cases h; done)) | (revert h; simp; done) | (revert h; simp; omega) | (revert h; simp [*]; done)))); clear h))
  refine ⟨_, ld 1 rfl rfl, ?_⟩
  refine ⟨[2], _, last_ok _ (logR_own (R := R) (h := [.blk g 161 [.map (some r)], .blk gb 140 s.cells, .rows (rowsOf st)]) 0 2 hok rfl rfl) s.w (by rw [hch]; exact Nat.zero_le _), ?_⟩
  rintro _ _ ⟨rfl, rfl⟩
  rw [hch]
  intro g6
  refine ⟨rfl, rfl, 4, rfl, rfl, Nat.le_of_ble_eq_true rfl, ?_⟩
  refine ⟨s.cells, rdBlk 1 rfl, rfl, ?_⟩
  refine ⟨Snap.zero.cells, rdBlk 4 rfl, rfl, ?_⟩
  refine ⟨[], _, continues_ok _ (hG.rh _) s Snap.zero (by show (0 : Int) ≤ _; omega) (by show _ ≤ (0 : Int); omega) _ (fun h => by cases h), ?_⟩
  rintro _ _ ⟨rfl, rfl⟩
  have hc' : contB s (if (lastC ([] : List Rec)).isSome = true then some Snap.zero else .none) = true := hc
  rw [hc']
  repeat (first | (refine ⟨fun h => ?_, fun h => ?_⟩; rotate_left 1; (focus (exfalso; (first | (with_reducible (cases h; done)) | (revert h; simp; done) | (revert h; simp; omega) | (revert h; simp [*]; done)))); clear h) | (refine ⟨fun h => ?_, fun h => ?_⟩; (focus (exfalso; (first | (with_reducible (cases h; done)) | (revert h; simp; done) | (revert h; simp; omega) | (revert h; simp [*]; done)))); clear h))
  refine ⟨[3], _, count_ok _ hok (logR_own (R := R) (h := [.blk g 161 [.map (some r)], .blk gb 140 s.cells, .rows (rowsOf st), .blk g6 140 Snap.zero.cells]) 0 2 hok rfl rfl) htot, ?_⟩
  rintro _ _ ⟨rfl, rfl⟩
  by_cases h3 : (4096 : Int) ≤ totalW st
  · have e1 : addE [] (totalW st) s = 7 := by rw [e0, if_pos (by omega)]
    generalize totalW st = n at *
    repeat (first | (refine ⟨fun h => ?_, fun h => ?_⟩; rotate_left 1; (focus (exfalso; (first | (with_reducible (cases h; done)) | (revert h; simp; done) | (revert h; simp; omega) | (revert h; simp [*]; done)))); clear h) | (refine ⟨fun h => ?_, fun h => ?_⟩; (focus (exfalso; (first | (with_reducible (cases h; done)) | (revert h; simp; done) | (revert h; simp; omega) | (revert h; simp [*]; done)))); clear h))
    exact ⟨logH g r st c, Ent.pick [0, 3, 1] rfl, by rw [e1]; rfl, .inl ⟨by rw [e1]; decide, rfl⟩⟩
  have e1 : addE [] (totalW st) s = 0 := by rw [e0, if_neg (by omega)]
  rw [e1]
  generalize totalW st = n at *
  repeat (first | (refine ⟨fun h => ?_, fun h => ?_⟩; rotate_left 1; (focus (exfalso; (first | (with_reducible (cases h; done)) | (revert h; simp; done) | (revert h; simp; omega) | (revert h; simp [*]; done)))); clear h) | (refine ⟨fun h => ?_, fun h => ?_⟩; (focus (exfalso; (first | (with_reducible (cases h; done)) | (revert h; simp; done) | (revert h; simp; omega) | (revert h; simp [*]; done)))); clear h))
  refine ⟨[0,0], (.q 0 (.q 1 (.q 2 (.q 3 (.q 4 (.q 5 (.q 6 (.q 7 (.q 9 (.q 10 (.one 8 (.q 11 (.one 12 (.one 13 (.fin 14))))))))))))))), by kernel_rfl, ?_⟩
  refine ⟨_, ld 0 rfl rfl, ?_⟩
  refine ⟨_, ld 1 rfl rfl, ?_⟩
  refine ⟨s.cells, rdBlk 1 rfl, rfl, ?_⟩
  refine ⟨_, ld 1 rfl rfl, ?_⟩
  refine ⟨[], _, bare_ok _ s, ?_⟩
  rintro _ _ ⟨rfl, rfl⟩
  refine ⟨rfl, fun g7 => ?_⟩
  refine ⟨(⟨s.bare, false, s.hd⟩ : Rec).cells, rfl, rdRow 3 rfl, rfl, by show (_ + _) * 104 ≤ _; omega, by omega, .inl ⟨rfl, rfl, rfl, fun A' cap' hg' => ?_⟩⟩
  refine ⟨4, rfl, like_ents _ _, ?_⟩
  rintro es' c' hu
  obtain ⟨rfl, rfl⟩ := upd_new (l := [⟨s.bare, false, s.hd⟩]) hx rfl hu
  have hrow : ({ w := s.w, A := A', cap := cap', born := c, l := [(⟨s.bare, false, s.hd⟩ : Rec)] } : WR).row.ha = .row A' (0 + 1) cap' 164 12 ([] ++ (⟨s.bare, false, s.hd⟩ : Rec).cells) (0, 0) := rfl
  refine ⟨logH g r (st ++ [⟨s.w, A', cap', c, [(⟨s.bare, false, s.hd⟩ : Rec)]⟩]) (c + 1), ?_, rfl, .inr ⟨rfl, A', cap', hg', rfl⟩⟩
  have hin := logS_in g r st ⟨s.w, A', cap', c, [(⟨s.bare, false, s.hd⟩ : Rec)]⟩ [] (c + 1)
  refine Ent.trans ?_ hin
  unfold logS
  rw [hrow, List.append_nil]
  exact Ent.pick [0, 3, 4, 1] rfl

end Go.Proofs.YtoddabjacjkjbaaDoor

namespace Go.Proofs.YtoddabjacjkjbaaDoor
open Go Go.RowKit
set_option linter.unusedVariables false

theorem countC_eq (C : Int → List Rec) : countC C = (C 0).length + ((C 1).length + ((C 2).length + ((C 3).length + ((C 4).length + ((C 5).length + ((C 6).length + ((C 7).length + ((C 8).length + ((C 9).length + ((C 10).length + ((C 11).length + 0))))))))))) := rfl
theorem wr_cases {w : Int} (h : 0 ≤ w ∧ w ≤ 11) : w = 0 ∨ w = 1 ∨ w = 2 ∨ w = 3 ∨ w = 4 ∨ w = 5 ∨ w = 6 ∨ w = 7 ∨ w = 8 ∨ w = 9 ∨ w = 10 ∨ w = 11 := by omega
theorem len_le_count {C : Int → List Rec} (hC : ∀ w, ¬ (0 ≤ w ∧ w ≤ 11) → C w = []) (w : Int) : (C w).length ≤ countC C := by
  rw [countC_eq]
  by_cases h : 0 ≤ w ∧ w ≤ 11
  · rcases wr_cases h with rfl | rfl | rfl | rfl | rfl | rfl | rfl | rfl | rfl | rfl | rfl | rfl <;> omega
  · rw [hC w h]; exact Nat.zero_le _
theorem sum_if (f : Int → Nat) (n : Nat) (w : Int) (hw : 0 ≤ w ∧ w ≤ 11) (h0 : f w = 0) : ((if w = 0 then n else f 0) + ((if w = 1 then n else f 1) + ((if w = 2 then n else f 2) + ((if w = 3 then n else f 3) + ((if w = 4 then n else f 4) + ((if w = 5 then n else f 5) + ((if w = 6 then n else f 6) + ((if w = 7 then n else f 7) + ((if w = 8 then n else f 8) + ((if w = 9 then n else f 9) + ((if w = 10 then n else f 10) + ((if w = 11 then n else f 11) + 0)))))))))))) = n + (f 0 + (f 1 + (f 2 + (f 3 + (f 4 + (f 5 + (f 6 + (f 7 + (f 8 + (f 9 + (f 10 + (f 11 + 0)))))))))))) := by
  rcases wr_cases hw with rfl | rfl | rfl | rfl | rfl | rfl | rfl | rfl | rfl | rfl | rfl | rfl <;> (simp only [Int.reduceEq, if_true, if_false]; omega)
theorem total_count {st : List WR} (hk : (st.map WR.w).Nodup) (hr : ∀ x ∈ st, 0 ≤ x.w ∧ x.w ≤ 11) : totalW st = countC (chainOf st) := by
  induction st with
  | nil => rfl
  | cons x r ih =>
    have hk' : x.w ∉ r.map WR.w ∧ (r.map WR.w).Nodup := List.nodup_cons.1 hk
    have hz : chainOf r x.w = [] := chainOf_none fun y hy e => hk'.1 (List.mem_map.2 ⟨y, hy, e⟩)
    have e := ih hk'.2 fun y hy => hr y (by simp [hy])
    have e2 : totalW (x :: r) = x.l.length + totalW r := by simp [totalW]
    have hs : ∀ v, (chainOf (x :: r) v).length = if x.w = v then x.l.length else (chainOf r v).length := fun v => by
      show (if x.w = v then x.l else chainOf r v).length = _
      split <;> rfl
    rw [e2, e, countC_eq, countC_eq]
    simp only [hs]
    exact (sum_if (fun v => (chainOf r v).length) x.l.length x.w (hr x (by simp)) (by rw [hz]; rfl)).symm

theorem addC_eq (C : Int → List Rec) (s : Snap) : addC C s = if addE (C s.w) (countC C) s = 0 then (updC C s.w (C s.w ++ [⟨s.bare, false, s.hd⟩]), 0) else (C, addE (C s.w) (countC C) s) := by
  unfold addC addE
  by_cases h1 : validB s = true
  · rw [if_pos h1, if_pos h1]
    by_cases h2 : s.q ≤ ((C s.w).length : Int)
    · rw [if_pos h2, if_pos h2]
      cases (C s.w)[(s.q - 1).toNat]? with
      | none => rfl
      | some x =>
        by_cases h3 : x.s = s.bare
        · show (if x.s = s.bare then _ else _) = if (if x.s = s.bare then (5 : Int) else 13) = 0 then _ else (C, (if x.s = s.bare then (5 : Int) else 13))
          rw [if_pos h3, if_pos h3]; rfl
        · show (if x.s = s.bare then _ else _) = if (if x.s = s.bare then (5 : Int) else 13) = 0 then _ else (C, (if x.s = s.bare then (5 : Int) else 13))
          rw [if_neg h3, if_neg h3]; rfl
    · rw [if_neg h2, if_neg h2]
      by_cases h3 : ((C s.w).length : Int) + 1 < s.q
      · rw [if_pos h3, if_pos h3]; rfl
      · rw [if_neg h3, if_neg h3]
        by_cases h4 : contB s (lastC (C s.w)) = true
        · rw [if_pos h4, if_pos h4]
          by_cases h5 : 4096 ≤ countC C
          · rw [if_pos h5, if_pos h5]; rfl
          · rw [if_neg h5, if_neg h5]; rfl
        · rw [if_neg h4, if_neg h4]; rfl
  · rw [if_neg h1, if_neg h1]; rfl

/-- What a log holds after a change of one writer's records. -/
theorem LogIs.set {g r : Nat} {a b : List WR} {x : WR} {c : Nat} (hok : LogOk (a ++ x :: b) c) (ha : ∀ y ∈ a, y.w ≠ x.w) {A : Option Addr} {cap : Nat} {l : List Rec} (hg : grow l.length A) : LogIs g (updC (chainOf (a ++ x :: b)) x.w l) (logH g r (a ++ { x with A := A, cap := cap, l := l } :: b) c) := by
  refine ⟨r, _, c, hok.set hg, fun w => ?_, rfl⟩
  unfold updC
  by_cases hw : w = x.w
  · rw [if_pos hw, hw]
    exact chainOf_mid (x := { x with A := A, cap := cap, l := l }) rfl ha
  · rw [if_neg hw]
    exact chainOf_other (fun e => hw e.symm) (fun e => hw e.symm)
theorem LogIs.new {g r : Nat} {st : List WR} {c : Nat} (hok : LogOk st c) {n : Int} (hn : 0 ≤ n ∧ n ≤ 11) (hx : ∀ y ∈ st, y.w ≠ n) {A : Option Addr} {cap : Nat} {l : List Rec} (hg : grow l.length A) : LogIs g (updC (chainOf st) n l) (logH g r (st ++ [⟨n, A, cap, c, l⟩]) (c + 1)) := by
  refine ⟨r, _, c + 1, hok.new hn hx hg, fun w => ?_, rfl⟩
  unfold updC
  by_cases hw : w = n
  · rw [if_pos hw, hw]
    exact chainOf_mid (x := ⟨n, A, cap, c, l⟩) rfl hx
  · rw [if_neg hw]
    exact chainOf_new fun e => hw e.symm

theorem Add_ok (R : Rd) (hG : ShaG R) {g : Nat} {C : Int → List Rec} {h : Hp} (hL : LogIs g C h) (hC : GoodC C) (hn : countC C ≤ 1000000) (s : Snap) (hs : s.Ok) :
    Fn Tryd.prog 77 [.pointer (some ⟨g, 0, .none⟩), .agg ⟨s.cells⟩] h R (fun v h' => v = .int .i64 (addC C s).2 ∧ LogIs g (addC C s).1 h') := by
  obtain ⟨r, st, c, hok, hch, rfl⟩ := hL
  have hCe : chainOf st = C := funext hch
  subst hCe
  have htot := total_count hok.keys hok.rng
  have hlen := len_le_count hC.out s.w
  rw [addC_eq, ← htot]
  by_cases hx : ∃ x ∈ st, x.w = s.w
  · obtain ⟨a, x, b, rfl, hw, ha⟩ := wr_split hx
    have hcx : chainOf (a ++ x :: b) s.w = x.l := chainOf_mid hw ha
    rw [hcx] at hlen ⊢
    refine Fn.pre (logS_out g r a x b c) (Fn.ent (Add_old R hG s hok hw ha (by omega) (by omega) hs (fun p hp => ?_)) ?_)
    · unfold lastC at hp
      rw [List.getLast?_eq_getElem?] at hp
      obtain ⟨y, hy, rfl⟩ := Option.map_eq_some_iff.1 hp
      rw [← hcx] at hy
      exact (hC.rcd _ _ _ hy).2.2.2
    · rintro _ _ ⟨rfl, ⟨he, rfl⟩ | ⟨he, A, cap, hg, rfl⟩⟩
      · rw [if_neg he]
        exact ⟨_, logS_in g r a x b c, rfl, r, _, c, hok, fun _ => rfl, rfl⟩
      · rw [if_pos he, he, ← hw]
        exact ⟨_, logS_in g r a _ b c, rfl, LogIs.set hok (by rw [hw]; exact ha) hg⟩
  · have hx' : ∀ x ∈ st, x.w ≠ s.w := fun x hm e => hx ⟨x, hm, e⟩
    have hcx : chainOf st s.w = [] := chainOf_none hx'
    rw [hcx]
    refine Fn.ent (Add_new R hG s hok hx' (by omega) hs) ?_
    rintro _ _ ⟨rfl, ⟨he, rfl⟩ | ⟨he, A, cap, hg, rfl⟩⟩
    · rw [if_neg he]
      exact ⟨_, Ent.refl _, rfl, r, _, c, hok, fun _ => rfl, rfl⟩
    · rw [if_pos he, he]
      have hv : validB s = true := by
        by_cases hv : validB s = true
        · exact hv
        · unfold addE at he; rw [if_neg hv] at he; cases he
      exact ⟨_, Ent.refl _, rfl, LogIs.new hok (validB_iff.1 hv).w hx' hg⟩

theorem recs_set {v : Value} {k : Nat} {y y' : Rec} (hk : k < 12) (hy : y'.cells = y.cells.set k v) : ∀ {l : List Rec} {i : Nat}, l[i]? = some y → (recs l).set (i * 12 + k) v = recs (l.set i y')
  | [], i, h => by simp at h
  | x :: l, 0, h => by
    have hxy : x = y := by simpa using h
    show (x.cells ++ recs l).set (0 * 12 + k) v = y'.cells ++ recs l
    rw [Nat.zero_mul, Nat.zero_add, List.set_append_left _ _ (by rw [Rec.cells_length]; exact hk), hy, hxy]
  | x :: l, i + 1, h => by
    have h' : l[i]? = some y := by simpa using h
    show (x.cells ++ recs l).set ((i + 1) * 12 + k) v = x.cells ++ recs (l.set i y')
    have e : (i + 1) * 12 + k - 12 = i * 12 + k := by omega
    rw [List.set_append_right _ _ (by rw [Rec.cells_length]; omega), ← recs_set hk hy h', Rec.cells_length, e]

end Go.Proofs.YtoddabjacjkjbaaDoor

namespace Go.Proofs.YtoddabjacjkjbaaDoor
open Go Go.RowKit
set_option linter.unusedVariables false

theorem findC_miss {C : Int → List Rec} {w q : Int} (h : q < 1 ∨ ((C w).length : Int) < q) : findC C w q = .none := by
  unfold findC
  by_cases h1 : q < 1
  · exact if_pos h1
  · rw [if_neg h1]
    exact List.getElem?_eq_none (by omega)
theorem addA_rec (qa i j : Nat) : addA (⟨qa, 0, .none⟩ : Addr) (i * 12) = ⟨qa, i * 12, .none⟩ ∧ addA (⟨qa, i * 12, .none⟩ : Addr) j = ⟨qa, i * 12 + j, .none⟩ := by
  refine ⟨?_, by cases j <;> rfl⟩
  cases i * 12 with
  | zero => rfl
  | succ n => show (⟨qa, 0 + (n + 1), .none⟩ : Addr) = _; rw [Nat.zero_add]
theorem rec_at {R : Rd} {h : Hp} (j : Nat) {x : WR} {q : Nat} (hA : x.A = some ⟨q, 0, .none⟩) (hj : h[j]? = some x.row.ha) {i : Nat} {y : Rec} (hy : x.l[i]? = some y) {k : Nat} {u : Value} (hu : y.cells[k]? = some u) : RH R h (addA ⟨q, i * 12, .none⟩ k) u := by
  have h1 := rec_own (R := R) j hA hj hy k u hu
  rw [add_zero_addr] at h1
  rw [(addA_rec q i k).2]
  exact h1

theorem logM_set (r : Nat) (a b : List WR) (x : WR) (c i : Nat) (y : Rec) : logM r (a ++ { x with l := x.l.set i y } :: b) c = logM r (a ++ x :: b) c := by
  have e : ({ x with l := x.l.set i y } : WR).entry = x.entry := by unfold WR.entry; rw [List.length_set]
  unfold logM entsOf
  rw [List.map_append, List.map_append, List.map_cons, List.map_cons, e]

set_option maxHeartbeats 1000000 in
theorem Forget_ok (R : Rd) {g : Nat} {C : Int → List Rec} {h : Hp} (hL : LogIs g C h) (hC : GoodC C) (hn : countC C ≤ 1000000) (w q : Int) :
    Fn Tryd.prog 80 [.pointer (some ⟨g, 0, .none⟩), .int .i64 w, .int .i64 q] h R (fun v h' => v = .int .i64 (forgetC C w q).2 ∧ LogIs g (forgetC C w q).1 h') := by
  obtain ⟨r, st, c, hok, hch, rfl⟩ := hL
  have hCe : chainOf st = C := funext hch
  subst hCe
  have hlen := len_le_count hC.out w
  by_cases hq : q < 1 ∨ ((chainOf st w).length : Int) < q
  · have e : forgetC (chainOf st) w q = (chainOf st, 4) := by unfold forgetC; rw [findC_miss hq]
    rw [e]
    refine fn_of_vc mixed tabOk Tryd.func80 rfl (by kernel_rfl) (Nat.le_of_ble_eq_true rfl) ?_
    refine ⟨[1], _, find_miss _ (logR_own (R := R) (h := [.blk g 161 [.map (some r)], .rows (rowsOf st)]) 0 1 hok rfl rfl) w q (by omega) hq, ?_⟩
    rintro _ _ ⟨rfl, rfl⟩
    repeat (first | (refine ⟨fun h => ?_, fun h => ?_⟩; rotate_left 1; (focus (exfalso; (first | (with_reducible (cases h; done)) | (revert h; simp; done) | (revert h; simp; omega) | (revert h; simp [*]; done)))); clear h) | (refine ⟨fun h => ?_, fun h => ?_⟩; (focus (exfalso; (first | (with_reducible (cases h; done)) | (revert h; simp; done) | (revert h; simp; omega) | (revert h; simp [*]; done)))); clear h))
    exact ⟨logH g r st c, Ent.pick [0, 1, 0] rfl, rfl, r, st, c, hok, fun _ => rfl, rfl⟩
  · obtain ⟨i, rfl⟩ : ∃ i : Nat, q = (i : Int) + 1 := ⟨(q - 1).toNat, by omega⟩
    have hin : ((i : Int) + 1 - 1).toNat = i := by omega
    by_cases hx : ∃ x ∈ st, x.w = w
    · obtain ⟨a, x, b, rfl, hw, ha⟩ := wr_split hx
      have hcx : chainOf (a ++ x :: b) w = x.l := chainOf_mid hw ha
      rw [hcx] at hlen hq
      have hil : i < x.l.length := by omega
      have hget := List.getElem?_eq_getElem hil
      generalize x.l[i] = y at hget
      obtain ⟨qa, hA⟩ := growA (hok.gr x (by simp)) (by omega)
      have hf : findC (chainOf (a ++ x :: b)) w ((i : Int) + 1) = some y := by
        unfold findC; rw [if_neg (by omega), hin, hcx]; exact hget
      have hmark := hC.mark w i y (by rw [hcx]; exact hget)
      refine Fn.pre (logS_out g r a x b c) ?_
      refine fn_of_vc mixed tabOk Tryd.func80 rfl (by kernel_rfl) (Nat.le_of_ble_eq_true rfl) ?_
      refine ⟨[1], _, find_hit (R := RH R [.blk g 161 [.map (some r)], x.row.ha, .rows (rowsOf (a ++ b))]) (ld 0 rfl rfl) w _ hw ha (by omega) (by omega) (by omega) hA, ?_⟩
      rintro _ _ ⟨rfl, rfl⟩
      rw [hin, (addA_rec qa i 0).1]
      repeat (first | (refine ⟨fun h => ?_, fun h => ?_⟩; rotate_left 1; (focus (exfalso; (first | (with_reducible (cases h; done)) | (revert h; simp; done) | (revert h; simp; omega) | (revert h; simp [*]; done)))); clear h) | (refine ⟨fun h => ?_, fun h => ?_⟩; (focus (exfalso; (first | (with_reducible (cases h; done)) | (revert h; simp; done) | (revert h; simp; omega) | (revert h; simp [*]; done)))); clear h))
      refine ⟨_, rec_at 1 hA rfl hget rfl, ?_⟩
      cases hfo : y.fo
      · repeat (first | (refine ⟨fun h => ?_, fun h => ?_⟩; rotate_left 1; (focus (exfalso; (first | (with_reducible (cases h; done)) | (revert h; simp; done) | (revert h; simp; omega) | (revert h; simp [*]; done)))); clear h) | (refine ⟨fun h => ?_, fun h => ?_⟩; (focus (exfalso; (first | (with_reducible (cases h; done)) | (revert h; simp; done) | (revert h; simp; omega) | (revert h; simp [*]; done)))); clear h))
        refine ⟨_, rec_at 1 hA rfl hget rfl, ?_⟩
        cases hhe : y.he
        · have e : forgetC (chainOf (a ++ x :: b)) w ((i : Int) + 1) = (updC (chainOf (a ++ x :: b)) w ((chainOf (a ++ x :: b) w).set i { y with fo := true }), 0) := by
            unfold forgetC; rw [hf]
            show (if y.fo = true then _ else if y.he = true then _ else _) = _
            rw [hfo, hhe, hin]; rfl
          rw [e, hcx, ← hw]
          repeat (first | (refine ⟨fun h => ?_, fun h => ?_⟩; rotate_left 1; (focus (exfalso; (first | (with_reducible (cases h; done)) | (revert h; simp; done) | (revert h; simp; omega) | (revert h; simp [*]; done)))); clear h) | (refine ⟨fun h => ?_, fun h => ?_⟩; (focus (exfalso; (first | (with_reducible (cases h; done)) | (revert h; simp; done) | (revert h; simp; omega) | (revert h; simp [*]; done)))); clear h))
          refine ⟨rfl, rfl, 1, hA, by rw [(addA_rec qa i 10).2], by rw [(addA_rec qa i 10).2]; show i * 12 + 10 + 1 ≤ (recs x.l).length; rw [recs_length]; omega, ?_⟩
          have hrow : ({ x with l := x.l.set i { y with fo := true } } : WR).row.ha = .row x.A x.l.length x.cap 164 12 (setRange (recs x.l) (addA (⟨qa, i * 12, .none⟩ : Addr) 10).off [.bool true]) (0, 0) := by
            rw [(addA_rec qa i 10).2]
            show HA.row x.A (x.l.set i _).length x.cap _ 12 (recs (x.l.set i _)) _ = HA.row _ _ _ _ _ ((recs x.l).set (i * 12 + 10) _) _
            rw [List.length_set, recs_set (y' := { y with fo := true }) (by decide) rfl hget]
            rfl
          refine ⟨_, Ent.trans (b := logS g r a { x with l := x.l.set i { y with fo := true } } b c) ?_ (logS_in g r a _ b c), rfl, LogIs.set hok (by rw [hw]; exact ha) (by rw [List.length_set]; exact hok.gr x (by simp))⟩
          unfold logS
          rw [hrow, logM_set]
          exact Ent.pick [0, 2, 0, 0] rfl
        · have e : forgetC (chainOf (a ++ x :: b)) w ((i : Int) + 1) = (chainOf (a ++ x :: b), 14) := by
            unfold forgetC; rw [hf]
            show (if y.fo = true then _ else if y.he = true then _ else _) = _
            rw [hfo, hhe]; rfl
          rw [e]
          repeat (first | (refine ⟨fun h => ?_, fun h => ?_⟩; rotate_left 1; (focus (exfalso; (first | (with_reducible (cases h; done)) | (revert h; simp; done) | (revert h; simp; omega) | (revert h; simp [*]; done)))); clear h) | (refine ⟨fun h => ?_, fun h => ?_⟩; (focus (exfalso; (first | (with_reducible (cases h; done)) | (revert h; simp; done) | (revert h; simp; omega) | (revert h; simp [*]; done)))); clear h))
          exact ⟨_, Ent.trans (b := logS g r a x b c) (Ent.pick [0, 2, 0, 0] rfl) (logS_in g r a x b c), rfl, r, _, c, hok, fun _ => rfl, rfl⟩
      · have e : forgetC (chainOf (a ++ x :: b)) w ((i : Int) + 1) = (chainOf (a ++ x :: b), 6) := by
          unfold forgetC; rw [hf]
          show (if y.fo = true then _ else _) = _
          rw [hfo]; rfl
        rw [e]
        repeat (first | (refine ⟨fun h => ?_, fun h => ?_⟩; rotate_left 1; (focus (exfalso; (first | (with_reducible (cases h; done)) | (revert h; simp; done) | (revert h; simp; omega) | (revert h; simp [*]; done)))); clear h) | (refine ⟨fun h => ?_, fun h => ?_⟩; (focus (exfalso; (first | (with_reducible (cases h; done)) | (revert h; simp; done) | (revert h; simp; omega) | (revert h; simp [*]; done)))); clear h))
        exact ⟨_, Ent.trans (b := logS g r a x b c) (Ent.pick [0, 2, 0, 0] rfl) (logS_in g r a x b c), rfl, r, _, c, hok, fun _ => rfl, rfl⟩
    · exfalso
      rw [chainOf_none (fun x hm e => hx ⟨x, hm, e⟩)] at hq
      apply hq; right; show ((0 : Nat) : Int) < _; omega

set_option maxHeartbeats 1000000 in
theorem Hold_ok (R : Rd) {g : Nat} {C : Int → List Rec} {h : Hp} (hL : LogIs g C h) (hC : GoodC C) (hn : countC C ≤ 1000000) (w q : Int) (bo : Bool) :
    Fn Tryd.prog 79 [.pointer (some ⟨g, 0, .none⟩), .int .i64 w, .int .i64 q, .bool bo] h R (fun v h' => v = .int .i64 (holdC C w q bo).2 ∧ LogIs g (holdC C w q bo).1 h') := by
  obtain ⟨r, st, c, hok, hch, rfl⟩ := hL
  have hCe : chainOf st = C := funext hch
  subst hCe
  have hlen := len_le_count hC.out w
  by_cases hq : q < 1 ∨ ((chainOf st w).length : Int) < q
  · have e : holdC (chainOf st) w q bo = (chainOf st, 4) := by unfold holdC; rw [findC_miss hq]
    rw [e]
    refine fn_of_vc mixed tabOk Tryd.func79 rfl (by kernel_rfl) (Nat.le_of_ble_eq_true rfl) ?_
    refine ⟨[1], _, find_miss _ (logR_own (R := R) (h := [.blk g 161 [.map (some r)], .rows (rowsOf st)]) 0 1 hok rfl rfl) w q (by omega) hq, ?_⟩
    rintro _ _ ⟨rfl, rfl⟩
    repeat (first | (refine ⟨fun h => ?_, fun h => ?_⟩; rotate_left 1; (focus (exfalso; (first | (with_reducible (cases h; done)) | (revert h; simp; done) | (revert h; simp; omega) | (revert h; simp [*]; done)))); clear h) | (refine ⟨fun h => ?_, fun h => ?_⟩; (focus (exfalso; (first | (with_reducible (cases h; done)) | (revert h; simp; done) | (revert h; simp; omega) | (revert h; simp [*]; done)))); clear h))
    exact ⟨logH g r st c, Ent.pick [0, 1, 0] rfl, rfl, r, st, c, hok, fun _ => rfl, rfl⟩
  · obtain ⟨i, rfl⟩ : ∃ i : Nat, q = (i : Int) + 1 := ⟨(q - 1).toNat, by omega⟩
    have hin : ((i : Int) + 1 - 1).toNat = i := by omega
    by_cases hx : ∃ x ∈ st, x.w = w
    · obtain ⟨a, x, b, rfl, hw, ha⟩ := wr_split hx
      have hcx : chainOf (a ++ x :: b) w = x.l := chainOf_mid hw ha
      rw [hcx] at hlen hq
      have hil : i < x.l.length := by omega
      have hget := List.getElem?_eq_getElem hil
      generalize x.l[i] = y at hget
      obtain ⟨qa, hA⟩ := growA (hok.gr x (by simp)) (by omega)
      have hf : findC (chainOf (a ++ x :: b)) w ((i : Int) + 1) = some y := by
        unfold findC; rw [if_neg (by omega), hin, hcx]; exact hget
      have hmark := hC.mark w i y (by rw [hcx]; exact hget)
      refine Fn.pre (logS_out g r a x b c) ?_
      refine fn_of_vc mixed tabOk Tryd.func79 rfl (by kernel_rfl) (Nat.le_of_ble_eq_true rfl) ?_
      refine ⟨[1], _, find_hit (R := RH R [.blk g 161 [.map (some r)], x.row.ha, .rows (rowsOf (a ++ b))]) (ld 0 rfl rfl) w _ hw ha (by omega) (by omega) (by omega) hA, ?_⟩
      rintro _ _ ⟨rfl, rfl⟩
      rw [hin, (addA_rec qa i 0).1]
      repeat (first | (refine ⟨fun h => ?_, fun h => ?_⟩; rotate_left 1; (focus (exfalso; (first | (with_reducible (cases h; done)) | (revert h; simp; done) | (revert h; simp; omega) | (revert h; simp [*]; done)))); clear h) | (refine ⟨fun h => ?_, fun h => ?_⟩; (focus (exfalso; (first | (with_reducible (cases h; done)) | (revert h; simp; done) | (revert h; simp; omega) | (revert h; simp [*]; done)))); clear h))
      refine ⟨_, rec_at 1 hA rfl hget rfl, ?_⟩
      cases hfo : y.fo
      · repeat (first | (refine ⟨fun h => ?_, fun h => ?_⟩; rotate_left 1; (focus (exfalso; (first | (with_reducible (cases h; done)) | (revert h; simp; done) | (revert h; simp; omega) | (revert h; simp [*]; done)))); clear h) | (refine ⟨fun h => ?_, fun h => ?_⟩; (focus (exfalso; (first | (with_reducible (cases h; done)) | (revert h; simp; done) | (revert h; simp; omega) | (revert h; simp [*]; done)))); clear h))
        have e : holdC (chainOf (a ++ x :: b)) w ((i : Int) + 1) bo = (updC (chainOf (a ++ x :: b)) w ((chainOf (a ++ x :: b) w).set i { y with he := bo }), 0) := by
          unfold holdC; rw [hf]
          show (if y.fo = true then _ else _) = _
          rw [hfo, hin]; rfl
        rw [e, hcx, ← hw]
        repeat (first | (refine ⟨fun h => ?_, fun h => ?_⟩; rotate_left 1; (focus (exfalso; (first | (with_reducible (cases h; done)) | (revert h; simp; done) | (revert h; simp; omega) | (revert h; simp [*]; done)))); clear h) | (refine ⟨fun h => ?_, fun h => ?_⟩; (focus (exfalso; (first | (with_reducible (cases h; done)) | (revert h; simp; done) | (revert h; simp; omega) | (revert h; simp [*]; done)))); clear h))
        refine ⟨rfl, rfl, 1, hA, by rw [(addA_rec qa i 11).2], by rw [(addA_rec qa i 11).2]; show i * 12 + 11 + 1 ≤ (recs x.l).length; rw [recs_length]; omega, ?_⟩
        have hrow : ({ x with l := x.l.set i { y with he := bo } } : WR).row.ha = .row x.A x.l.length x.cap 164 12 (setRange (recs x.l) (addA (⟨qa, i * 12, .none⟩ : Addr) 11).off [.bool bo]) (0, 0) := by
          rw [(addA_rec qa i 11).2]
          show HA.row x.A (x.l.set i _).length x.cap _ 12 (recs (x.l.set i _)) _ = HA.row _ _ _ _ _ ((recs x.l).set (i * 12 + 11) _) _
          rw [List.length_set, recs_set (y' := { y with he := bo }) (by decide) rfl hget]
          rfl
        refine ⟨_, Ent.trans (b := logS g r a { x with l := x.l.set i { y with he := bo } } b c) ?_ (logS_in g r a _ b c), rfl, LogIs.set hok (by rw [hw]; exact ha) (by rw [List.length_set]; exact hok.gr x (by simp))⟩
        unfold logS
        rw [hrow, logM_set]
        exact Ent.pick [0, 2, 0, 0] rfl
      · have e : holdC (chainOf (a ++ x :: b)) w ((i : Int) + 1) bo = (chainOf (a ++ x :: b), 6) := by
          unfold holdC; rw [hf]
          show (if y.fo = true then _ else _) = _
          rw [hfo]; rfl
        rw [e]
        repeat (first | (refine ⟨fun h => ?_, fun h => ?_⟩; rotate_left 1; (focus (exfalso; (first | (with_reducible (cases h; done)) | (revert h; simp; done) | (revert h; simp; omega) | (revert h; simp [*]; done)))); clear h) | (refine ⟨fun h => ?_, fun h => ?_⟩; (focus (exfalso; (first | (with_reducible (cases h; done)) | (revert h; simp; done) | (revert h; simp; omega) | (revert h; simp [*]; done)))); clear h))
        exact ⟨_, Ent.trans (b := logS g r a x b c) (Ent.pick [0, 2, 0, 0] rfl) (logS_in g r a x b c), rfl, r, _, c, hok, fun _ => rfl, rfl⟩
    · exfalso
      rw [chainOf_none (fun x hm e => hx ⟨x, hm, e⟩)] at hq
      apply hq; right; show ((0 : Nat) : Int) < _; omega

end Go.Proofs.YtoddabjacjkjbaaDoor

namespace Go.Proofs.YtoddabjacjkjbaaDoor
open Go Go.RowKit
set_option linter.unusedVariables false

def snaps (l : List Snap) : List Value := l.flatMap Snap.cells
theorem snaps_snoc (l : List Snap) (x : Snap) : snaps (l ++ [x]) = snaps l ++ x.cells := by simp [snaps]
theorem snaps_length (l : List Snap) : (snaps l).length = l.length * 10 := flat_len fun _ _ => rfl

set_option maxHeartbeats 1000000 in
theorem Of_ok (R : Rd) {g r : Nat} {st : List WR} {c : Nat} (hL : LogR R g r st) (w : Int) (hn : (chainOf st w).length ≤ 1000000) :
    Fn Tryd.prog 82 [.pointer (some ⟨g, 0, .none⟩), .int .i64 w] [logM r st c] R
      (fun v h => ∃ A cap, grow (chainOf st w).length A ∧ v = .slice A (chainOf st w).length cap ∧ h = [logM r st c, .row A (chainOf st w).length cap 140 10 (snaps ((chainOf st w).map Rec.shown)) (0, 0)]) := by
  have hML := maxLen_eq
  refine fn_of_vc mixed tabOk Tryd.func82 rfl (by kernel_rfl) (Nat.le_of_ble_eq_true rfl) ?_
  refine ⟨_, .inl hL.m, ?_⟩
  refine ⟨0, rfl, like_ents _ _, ?_⟩
  rintro v b hf
  obtain ⟨B, capB, rfl, hs⟩ := hL.found hf
  generalize hch : chainOf st w = l at *
  refine ⟨[none, none, none, none, none, some 5, none, some 7, none, none, none, none, none, none, none, some 15, some 16, some 17, some 18, some 19, some 20, some 21, some 22, some 23, some 24], [5, 15], Option Addr × Nat × Nat, fun ⟨A, cap, k⟩ => k ≤ l.length ∧ grow k A, fun ⟨A, cap, k⟩ => [.slice A k cap, .int .i64 k],
    fun ⟨A, cap, k⟩ => [logM r st c, .row A k cap 140 10 (snaps ((l.take k).map Rec.shown)) (0, 0)], fun ⟨_, _, k⟩ => l.length - k, (.none, 0, 0), ⟨Nat.zero_le _, .inl rfl⟩, ⟨rfl, rfl, trivial⟩, Ent.nilrow [_] _ _, ?_⟩
  rintro ⟨A, cap, k⟩ ⟨hk, hg⟩ js
  refine ⟨fun hb => ?_, fun hb => ?_⟩
  · replace hb := of_decide_eq_true hb
    have hil : k < l.length := by omega
    clear hb
    have hget := List.getElem?_eq_getElem hil
    have htake := List.take_add_one (l := l) (i := k)
    rw [hget] at htake
    generalize l[k] = x at hget htake
    obtain ⟨a, rfl, hr⟩ := slr_at (c := Rec.cells) (fun _ => rfl) (by omega) hs hget
    refine ⟨by omega, by omega, a, rfl, ?_⟩
    refine ⟨x.cells, fun j u hu => .inl (rdnS (vs := x.cells) (fun j u hu => hr j u hu) j u hu), rfl, ?_⟩
    intro g7
    refine ⟨rfl, rfl, 2, rfl, rfl, Nat.le_of_ble_eq_true rfl, ?_⟩
    refine ⟨x.cells, rdBlk 2 rfl, rfl, ?_⟩
    refine ⟨[], _, shown_ok _ x, ?_⟩
    rintro _ _ ⟨rfl, rfl⟩
    refine ⟨rfl, fun g8 => ?_⟩
    refine ⟨x.shown.cells, rfl, rdRow 3 rfl, rfl, by show (_ + _) * 96 ≤ _; omega, by omega, .inr ⟨1, rfl, rfl, rfl, rfl, rfl, rfl, fun A' cap' hg' => ?_⟩⟩
    (intro z hz; obtain rfl : z = ((k + 1 : Nat) : Int) := (by first | (rw [IntKind.wrap_i64] at hz; omega) | (rw [IntKind.wrap_u64] at hz; omega) | omega); clear hz)
    refine ⟨rfl, (A', cap', k + 1), ⟨hil, hg'⟩, by show l.length - (k + 1) < l.length - k; omega, ⟨rfl, rfl, trivial⟩, ?_, rfl⟩
    have e : snaps ((l.take (k + 1)).map Rec.shown) = snaps ((l.take k).map Rec.shown) ++ x.shown.cells := by
      rw [htake, ← snaps_snoc, List.map_append]; rfl
    show Ent _ [logM r st c, .row A' (k + 1) cap' _ 10 (snaps ((l.take (k + 1)).map Rec.shown)) _]
    rw [e]
    exact Ent.drop [_, _] [_, _]
  · replace hb := of_decide_eq_false hb
    obtain rfl : k = l.length := by omega
    refine ⟨_, Ent.refl _, A, cap, hg, rfl, ?_⟩
    show [logM r st c, HA.row A l.length cap _ 10 (snaps ((l.take l.length).map Rec.shown)) _] = _
    rw [List.take_length]

end Go.Proofs.YtoddabjacjkjbaaDoor
