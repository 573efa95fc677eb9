/-
  Contracts: the encoding and the sum of a record; Sum, continues (package snapshot).
-/
import Derived.Test.YtbgfnofjnbpdgaaDoorSnd
namespace Go.Proofs.YtbgfnofjnbpdgaaDoor
open Go Go.RowKit
set_option linter.unusedVariables false

set_option maxRecDepth 100000 in
set_option maxHeartbeats 2000000 in
theorem write_ok (R : Rd) (g : Nat) (bs : Str) (h : Hp) (s : Snap) (hv : Valid s) (hb : bs.length ≤ 140737487000000) (hw : IsW g bs 0 h) :
    Fn Tryd.prog 65 [.pointer (some ⟨g, 0, .none⟩), .agg ⟨s.cells⟩] h R (fun _ h' => IsW g (bs ++ encP s) 0 h') := by
  have hpv := hv.pv_le
  obtain ⟨v1, v2, v3, v4, v5, v6, v7, v8, _, _⟩ := hv
  have hu : ∀ {n : Nat}, n ≤ 18446744073709551615 → (num n).length ≤ 10 := fun h => by rw [length_num]; exact usize_le10 h
  obtain ⟨A, k, cap, xs, rfl, hk, hx, hg⟩ := hw
  refine fn_of_vc mixed tabOk Tryd.func65 rfl (by kernel_rfl) (Nat.le_of_ble_eq_true rfl) ?_
  intro gb
  refine ⟨_, ld 2 rfl rfl, ?_⟩
  (intro z hz; obtain rfl : z = ((s.w.toNat : Nat) : Int) := (by first | (rw [IntKind.wrap_i64] at hz; omega) | (rw [IntKind.wrap_u64] at hz; omega) | omega); clear hz)
  refine ⟨[0, 0], _, WUint_ok _ g bs 0 _ s.w.toNat (by omega) (by omega) ⟨A, k, cap, xs, rfl, hk, hx, hg⟩, ?_⟩
  clear hk hx hg
  rintro _ h' hw
  rw [if_pos rfl] at hw
  obtain ⟨b1, e1⟩ : ∃ b, b = bs ++ num s.w.toNat := ⟨_, rfl⟩
  rw [← e1] at hw
  have l1 : b1.length ≤ bs.length + 40 := by rw [e1, List.length_append]; have := hu (n := s.w.toNat) (by omega); omega
  obtain ⟨A, k, cap, xs, rfl, hk, hx, hg⟩ := hw
  refine ⟨_, ld 0 rfl rfl, ?_⟩
  (intro z hz; obtain rfl : z = ((s.q.toNat : Nat) : Int) := (by first | (rw [IntKind.wrap_i64] at hz; omega) | (rw [IntKind.wrap_u64] at hz; omega) | omega); clear hz)
  refine ⟨[1, 1], _, WUint_ok _ g b1 0 _ s.q.toNat (by omega) (by omega) ⟨A, k, cap, xs, rfl, hk, hx, hg⟩, ?_⟩
  clear hk hx hg
  rintro _ h' hw
  rw [if_pos rfl] at hw
  obtain ⟨b2, e2⟩ : ∃ b, b = b1 ++ num s.q.toNat := ⟨_, rfl⟩
  rw [← e2] at hw
  have l2 : b2.length ≤ b1.length + 40 := by rw [e2, List.length_append]; have := hu (n := s.q.toNat) (by omega); omega
  obtain ⟨A, k, cap, xs, rfl, hk, hx, hg⟩ := hw
  refine ⟨_, ld 0 rfl rfl, ?_⟩
  (intro z hz; obtain rfl : z = ((s.d.toNat : Nat) : Int) := (by first | (rw [IntKind.wrap_i64] at hz; omega) | (rw [IntKind.wrap_u64] at hz; omega) | omega); clear hz)
  refine ⟨[1, 1], _, WUint_ok _ g b2 0 _ s.d.toNat (by omega) (by omega) ⟨A, k, cap, xs, rfl, hk, hx, hg⟩, ?_⟩
  clear hk hx hg
  rintro _ h' hw
  rw [if_pos rfl] at hw
  obtain ⟨b3, e3⟩ : ∃ b, b = b2 ++ num s.d.toNat := ⟨_, rfl⟩
  rw [← e3] at hw
  have l3 : b3.length ≤ b2.length + 40 := by rw [e3, List.length_append]; have := hu (n := s.d.toNat) (by omega); omega
  obtain ⟨A, k, cap, xs, rfl, hk, hx, hg⟩ := hw
  refine ⟨_, ld 0 rfl rfl, ?_⟩
  refine ⟨[1, 1], _, WSum_ok _ g b3 0 _ s.nm (by omega) ⟨A, k, cap, xs, rfl, hk, hx, hg⟩, ?_⟩
  clear hk hx hg
  rintro _ h' hw
  rw [if_pos ⟨rfl, v4⟩, if_neg (fun h => h.2 v4)] at hw
  obtain ⟨b4, e4⟩ : ∃ b, b = b3 ++ s.nm := ⟨_, rfl⟩
  rw [← e4] at hw
  have l4 : b4.length ≤ b3.length + 40 := by rw [e4, List.length_append]; skip; omega
  obtain ⟨A, k, cap, xs, rfl, hk, hx, hg⟩ := hw
  refine ⟨_, ld 0 rfl rfl, ?_⟩
  (intro z hz; obtain rfl : z = ((s.gn.toNat : Nat) : Int) := (by first | (rw [IntKind.wrap_i64] at hz; omega) | (rw [IntKind.wrap_u64] at hz; omega) | omega); clear hz)
  refine ⟨[1, 1], _, WUint_ok _ g b4 0 _ s.gn.toNat (by omega) (by omega) ⟨A, k, cap, xs, rfl, hk, hx, hg⟩, ?_⟩
  clear hk hx hg
  rintro _ h' hw
  rw [if_pos rfl] at hw
  obtain ⟨b5, e5⟩ : ∃ b, b = b4 ++ num s.gn.toNat := ⟨_, rfl⟩
  rw [← e5] at hw
  have l5 : b5.length ≤ b4.length + 40 := by rw [e5, List.length_append]; have := hu (n := s.gn.toNat) (by omega); omega
  obtain ⟨A, k, cap, xs, rfl, hk, hx, hg⟩ := hw
  refine ⟨_, ld 0 rfl rfl, ?_⟩
  (intro z hz; obtain rfl : z = ((s.sz.toNat : Nat) : Int) := (by first | (rw [IntKind.wrap_i64] at hz; omega) | (rw [IntKind.wrap_u64] at hz; omega) | omega); clear hz)
  refine ⟨[1, 1], _, WUint_ok _ g b5 0 _ s.sz.toNat (by omega) (by omega) ⟨A, k, cap, xs, rfl, hk, hx, hg⟩, ?_⟩
  clear hk hx hg
  rintro _ h' hw
  rw [if_pos rfl] at hw
  obtain ⟨b6, e6⟩ : ∃ b, b = b5 ++ num s.sz.toNat := ⟨_, rfl⟩
  rw [← e6] at hw
  have l6 : b6.length ≤ b5.length + 40 := by rw [e6, List.length_append]; have := hu (n := s.sz.toNat) (by omega); omega
  obtain ⟨A, k, cap, xs, rfl, hk, hx, hg⟩ := hw
  refine ⟨_, ld 0 rfl rfl, ?_⟩
  (intro z hz; obtain rfl : z = ((s.fl.toNat : Nat) : Int) := (by first | (rw [IntKind.wrap_i64] at hz; omega) | (rw [IntKind.wrap_u64] at hz; omega) | omega); clear hz)
  refine ⟨[1, 1], _, WUint_ok _ g b6 0 _ s.fl.toNat (by omega) (by omega) ⟨A, k, cap, xs, rfl, hk, hx, hg⟩, ?_⟩
  clear hk hx hg
  rintro _ h' hw
  rw [if_pos rfl] at hw
  obtain ⟨b7, e7⟩ : ∃ b, b = b6 ++ num s.fl.toNat := ⟨_, rfl⟩
  rw [← e7] at hw
  have l7 : b7.length ≤ b6.length + 40 := by rw [e7, List.length_append]; have := hu (n := s.fl.toNat) (by omega); omega
  obtain ⟨A, k, cap, xs, rfl, hk, hx, hg⟩ := hw
  refine ⟨_, ld 0 rfl rfl, ?_⟩
  (intro z hz; obtain rfl : z = ((s.bt.toNat : Nat) : Int) := (by first | (rw [IntKind.wrap_i64] at hz; omega) | (rw [IntKind.wrap_u64] at hz; omega) | omega); clear hz)
  refine ⟨[1, 1], _, WUint_ok _ g b7 0 _ s.bt.toNat (by omega) (by omega) ⟨A, k, cap, xs, rfl, hk, hx, hg⟩, ?_⟩
  clear hk hx hg
  rintro _ h' hw
  rw [if_pos rfl] at hw
  obtain ⟨b8, e8⟩ : ∃ b, b = b7 ++ num s.bt.toNat := ⟨_, rfl⟩
  rw [← e8] at hw
  have l8 : b8.length ≤ b7.length + 40 := by rw [e8, List.length_append]; have := hu (n := s.bt.toNat) (by omega); omega
  obtain ⟨A, k, cap, xs, rfl, hk, hx, hg⟩ := hw
  refine ⟨_, ld 0 rfl rfl, ?_⟩
  refine ⟨[1, 1], _, WText_ok _ g b8 0 _ s.pv (by omega) ⟨A, k, cap, xs, rfl, hk, hx, hg⟩, ?_⟩
  clear hk hx hg
  rintro _ h' hw
  rw [if_pos rfl] at hw
  refine ⟨_, Ent.dropr [_] _, ?_⟩
  have e : bs ++ encP s = b8 ++ num s.pv.length ++ s.pv := by rw [e8, e7, e6, e5, e4, e3, e2, e1]; simp only [encP, List.append_assoc]
  rw [e]; exact hw

theorem sum_ok (R : Rd) (hG : ShaG R) (s : Snap) (hv : Valid s) : Fn Tryd.prog 40 [.agg ⟨s.cells⟩] [] R (fun v h => v = .string ⟨⟨sumP s⟩⟩ ∧ h = []) := by
  have hle := encP_le hv
  refine fn_of_vc mixed tabOk Tryd.func40 rfl (by kernel_rfl) (Nat.le_of_ble_eq_true rfl) ?_
  intro gb
  refine ⟨[], _, NewWriter_ok _, ?_⟩
  rintro _ _ ⟨g, rfl, A, k, cap, xs, rfl, hk, hx, hg⟩
  refine ⟨s.cells, rdBlk 0 rfl, rfl, ?_⟩
  refine ⟨[1, 1], _, write_ok _ g [] _ s hv (by simp) ⟨A, k, cap, xs, rfl, hk, hx, hg⟩, ?_⟩
  clear hk hx hg
  rintro _ _ ⟨A, k, cap, xs, rfl, hk, hx, hg⟩
  rw [List.nil_append] at hk hx
  refine ⟨[1, 1], _, WDone_ok _ g (encP s) 0 _ ⟨A, k, cap, xs, rfl, hk, hx, hg⟩, ?_⟩
  clear hk hx hg
  rintro _ _ ⟨sl, hw, hs, rfl, rfl, ⟨A, k, cap, xs, rfl, -, -, -⟩, ⟨A2, k2, cap2, xs2, rfl, rfl, hk2, hx2, hg2⟩⟩
  have e1 : doneB (encP s) 0 = encP s := by rw [doneB, if_pos ⟨rfl, by omega⟩]
  rw [e1] at hk2 hx2
  subst hk2 hx2
  refine ⟨[3], _, fn_row 0 rfl (callable Tryd.func74 rfl (by kernel_rfl)) fun hcap _ => Fn.frame (h := []) (k := [_]) (Sum_ok _ ((hG.rh _).rh _) (encP s) _ _ (by omega) hcap (SlR.own 0 rfl (by rw [BV_length, Nat.mul_one]) hg2)), ?_⟩
  rintro _ _ ⟨_, rfl, rfl, rfl⟩
  exact ⟨_, Ent.nil _, rfl, rfl⟩

theorem Sum_okS (R : Rd) (hG : ShaG R) (s : Snap) : Fn Tryd.prog 20 [.agg ⟨s.cells⟩] [] R (fun v h => v = .tuple ⟨[.string ⟨⟨if validB s = true then sumP s else []⟩⟩, .int .i64 (if validB s = true then 0 else 1)]⟩ ∧ h = []) := by
  refine fn_of_vc mixed tabOk Tryd.func20 rfl (by kernel_rfl) (Nat.le_of_ble_eq_true rfl) ?_
  intro gb
  refine ⟨s.cells, rdBlk 0 rfl, rfl, ?_⟩
  refine ⟨[], _, valid_ok _ s, ?_⟩
  rintro _ _ ⟨rfl, rfl⟩
  cases hv : validB s
  · repeat (first | (refine ⟨fun h => ?_, fun h => ?_⟩; rotate_left 1; (focus (exfalso; (first | (with_reducible (cases h; done)) | (revert h; simp; done) | (revert h; simp; omega) | (revert h; simp [*]; done)))); clear h) | (refine ⟨fun h => ?_, fun h => ?_⟩; (focus (exfalso; (first | (with_reducible (cases h; done)) | (revert h; simp; done) | (revert h; simp; omega) | (revert h; simp [*]; done)))); clear h))
    exact ⟨_, Ent.nil _, rfl, rfl⟩
  · repeat (first | (refine ⟨fun h => ?_, fun h => ?_⟩; rotate_left 1; (focus (exfalso; (first | (with_reducible (cases h; done)) | (revert h; simp; done) | (revert h; simp; omega) | (revert h; simp [*]; done)))); clear h) | (refine ⟨fun h => ?_, fun h => ?_⟩; (focus (exfalso; (first | (with_reducible (cases h; done)) | (revert h; simp; done) | (revert h; simp; omega) | (revert h; simp [*]; done)))); clear h))
    refine ⟨s.cells, rdBlk 0 rfl, rfl, ?_⟩
    refine ⟨[], _, sum_ok _ (hG.rh _) s (validB_iff.1 hv), ?_⟩
    rintro _ _ ⟨rfl, rfl⟩
    exact ⟨_, Ent.nil _, rfl, rfl⟩

theorem continues_ok (R : Rd) (hG : ShaG R) (s l : Snap) (hq : l.q ≤ 9223372036854775806) (hq0 : -9223372036854775808 ≤ l.q) (there : Bool) (hl : there = true → Valid l) :
    Fn Tryd.prog 43 [.agg ⟨s.cells⟩, .agg ⟨l.cells⟩, .bool there] [] R (fun v h => v = .bool (contB s (if there then some l else .none)) ∧ h = []) := by
  refine fn_of_vc mixed tabOk Tryd.func43 rfl (by kernel_rfl) (Nat.le_of_ble_eq_true rfl) ?_
  intro g1
  intro g2
  cases there
  · repeat (first | (refine ⟨fun h => ?_, fun h => ?_⟩; rotate_left 1; (focus (exfalso; (first | (with_reducible (cases h; done)) | (revert h; simp; done) | (revert h; simp; omega) | (revert h; simp [*]; done)))); clear h) | (refine ⟨fun h => ?_, fun h => ?_⟩; (focus (exfalso; (first | (with_reducible (cases h; done)) | (revert h; simp; done) | (revert h; simp; omega) | (revert h; simp [*]; done)))); clear h))
    refine ⟨_, ld 0 rfl rfl, ?_⟩
    exact ⟨_, Ent.nil _, rfl, rfl⟩
  repeat (first | (refine ⟨fun h => ?_, fun h => ?_⟩; rotate_left 1; (focus (exfalso; (first | (with_reducible (cases h; done)) | (revert h; simp; done) | (revert h; simp; omega) | (revert h; simp [*]; done)))); clear h) | (refine ⟨fun h => ?_, fun h => ?_⟩; (focus (exfalso; (first | (with_reducible (cases h; done)) | (revert h; simp; done) | (revert h; simp; omega) | (revert h; simp [*]; done)))); clear h))
  refine ⟨[0,0], (.q 0 (.q 1 (.q 2 (.q 3 (.q 4 (.q 5 (.q 6 (.q 7 (.q 8 (.q 9 (.q 10 (.q 11 (.q 12 (.q 13 (.q 14 (.q 15 (.q 16 (.one 17 (.q 18 (.q 19 (.q 20 .nil))))))))))))))))))))), by kernel_rfl, ?_⟩
  refine ⟨_, ld 0 rfl rfl, ?_⟩
  refine ⟨_, ld 1 rfl rfl, ?_⟩
  (intro z hz; obtain rfl := wr_i64 hz (by omega) (by omega); clear hz)
  have ec : contB s (if true = true then some l else .none) = (decide (s.q = l.q + 1) && (decide (l.d ≤ s.d) && decide (s.pv = sumP l))) := rfl
  by_cases h1 : s.q = l.q + 1
  case neg =>
    repeat (first | (refine ⟨fun h => ?_, fun h => ?_⟩; rotate_left 1; (focus (exfalso; (first | (with_reducible (cases h; done)) | (revert h; simp; done) | (revert h; simp; omega) | (revert h; simp [*]; done)))); clear h) | (refine ⟨fun h => ?_, fun h => ?_⟩; (focus (exfalso; (first | (with_reducible (cases h; done)) | (revert h; simp; done) | (revert h; simp; omega) | (revert h; simp [*]; done)))); clear h))
    refine ⟨_, Ent.nil _, ?_, rfl⟩
    rw [ec, decide_eq_false h1, Bool.false_and]; rfl
  rw [decide_eq_true h1, Bool.true_and] at ec
  repeat (first | (refine ⟨fun h => ?_, fun h => ?_⟩; rotate_left 1; (focus (exfalso; (first | (with_reducible (cases h; done)) | (revert h; simp; done) | (revert h; simp; omega) | (revert h; simp [*]; done)))); clear h) | (refine ⟨fun h => ?_, fun h => ?_⟩; (focus (exfalso; (first | (with_reducible (cases h; done)) | (revert h; simp; done) | (revert h; simp; omega) | (revert h; simp [*]; done)))); clear h))
  refine ⟨_, ld 0 rfl rfl, ?_⟩
  repeat (first | (refine ⟨fun h => ?_, fun h => ?_⟩; rotate_left 1; (focus (exfalso; (first | (with_reducible (cases h; done)) | (revert h; simp; done) | (revert h; simp; omega) | (revert h; simp [*]; done)))); clear h) | (refine ⟨fun h => ?_, fun h => ?_⟩; (focus (exfalso; (first | (with_reducible (cases h; done)) | (revert h; simp; done) | (revert h; simp; omega) | (revert h; simp [*]; done)))); clear h))
  refine ⟨_, ld 1 rfl rfl, ?_⟩
  by_cases h2 : l.d ≤ s.d
  case neg =>
    repeat (first | (refine ⟨fun h => ?_, fun h => ?_⟩; rotate_left 1; (focus (exfalso; (first | (with_reducible (cases h; done)) | (revert h; simp; done) | (revert h; simp; omega) | (revert h; simp [*]; done)))); clear h) | (refine ⟨fun h => ?_, fun h => ?_⟩; (focus (exfalso; (first | (with_reducible (cases h; done)) | (revert h; simp; done) | (revert h; simp; omega) | (revert h; simp [*]; done)))); clear h))
    refine ⟨_, Ent.nil _, ?_, rfl⟩
    rw [ec, decide_eq_false h2, Bool.false_and]; rfl
  rw [decide_eq_true h2, Bool.true_and] at ec
  repeat (first | (refine ⟨fun h => ?_, fun h => ?_⟩; rotate_left 1; (focus (exfalso; (first | (with_reducible (cases h; done)) | (revert h; simp; done) | (revert h; simp; omega) | (revert h; simp [*]; done)))); clear h) | (refine ⟨fun h => ?_, fun h => ?_⟩; (focus (exfalso; (first | (with_reducible (cases h; done)) | (revert h; simp; done) | (revert h; simp; omega) | (revert h; simp [*]; done)))); clear h))
  refine ⟨_, ld 0 rfl rfl, ?_⟩
  repeat (first | (refine ⟨fun h => ?_, fun h => ?_⟩; rotate_left 1; (focus (exfalso; (first | (with_reducible (cases h; done)) | (revert h; simp; done) | (revert h; simp; omega) | (revert h; simp [*]; done)))); clear h) | (refine ⟨fun h => ?_, fun h => ?_⟩; (focus (exfalso; (first | (with_reducible (cases h; done)) | (revert h; simp; done) | (revert h; simp; omega) | (revert h; simp [*]; done)))); clear h))
  refine ⟨l.cells, rdBlk 1 rfl, rfl, ?_⟩
  repeat (first | (refine ⟨fun h => ?_, fun h => ?_⟩; rotate_left 1; (focus (exfalso; (first | (with_reducible (cases h; done)) | (revert h; simp; done) | (revert h; simp; omega) | (revert h; simp [*]; done)))); clear h) | (refine ⟨fun h => ?_, fun h => ?_⟩; (focus (exfalso; (first | (with_reducible (cases h; done)) | (revert h; simp; done) | (revert h; simp; omega) | (revert h; simp [*]; done)))); clear h))
  refine ⟨[], _, sum_ok _ ((hG.rh _).rh _) l (hl rfl), ?_⟩
  rintro _ _ ⟨rfl, rfl⟩
  repeat (first | (refine ⟨fun h => ?_, fun h => ?_⟩; rotate_left 1; (focus (exfalso; (first | (with_reducible (cases h; done)) | (revert h; simp; done) | (revert h; simp; omega) | (revert h; simp [*]; done)))); clear h) | (refine ⟨fun h => ?_, fun h => ?_⟩; (focus (exfalso; (first | (with_reducible (cases h; done)) | (revert h; simp; done) | (revert h; simp; omega) | (revert h; simp [*]; done)))); clear h))
  refine ⟨_, Ent.nil _, ?_, rfl⟩
  rw [ec]; rfl

end Go.Proofs.YtbgfnofjnbpdgaaDoor
