/-
  Contracts: Forget and Hold of a log.
-/
import Derived.Test.YtbgfnofjnbpdgaaDoorSni
namespace Go.Proofs.YtbgfnofjnbpdgaaDoor
open Go Go.RowKit
set_option linter.unusedVariables false

theorem findC_miss {C : Int → List Rec} {w q : Int} (h : q < 1 ∨ ((C w).length : Int) < q) : findC C w q = .none := by
  unfold findC
  by_cases h1 : q < 1
  · exact if_pos h1
  · rw [if_neg h1]
    exact List.getElem?_eq_none (by omega)
theorem addA_rec (qa i j : Nat) : addA (⟨qa, 0, .none⟩ : Addr) (i * 12) = ⟨qa, i * 12, .none⟩ ∧ addA (⟨qa, i * 12, .none⟩ : Addr) j = ⟨qa, i * 12 + j, .none⟩ := by
  refine ⟨?_, by cases j <;> rfl⟩
  cases i * 12 with
  | zero => rfl
  | succ n => show (⟨qa, 0 + (n + 1), .none⟩ : Addr) = _; rw [Nat.zero_add]
theorem rec_at {R : Rd} {h : Hp} (j : Nat) {x : WR} {q : Nat} (hA : x.A = some ⟨q, 0, .none⟩) (hj : h[j]? = some x.row.ha) {i : Nat} {y : Rec} (hy : x.l[i]? = some y) {k : Nat} {u : Value} (hu : y.cells[k]? = some u) : RH R h (addA ⟨q, i * 12, .none⟩ k) u := by
  have h1 := rec_own (R := R) j hA hj hy k u hu
  rw [add_zero_addr] at h1
  rw [(addA_rec q i k).2]
  exact h1

theorem logM_set (r : Nat) (a b : List WR) (x : WR) (c i : Nat) (y : Rec) : logM r (a ++ { x with l := x.l.set i y } :: b) c = logM r (a ++ x :: b) c := by
  have e : ({ x with l := x.l.set i y } : WR).entry = x.entry := by unfold WR.entry; rw [List.length_set]
  unfold logM entsOf
  rw [List.map_append, List.map_append, List.map_cons, List.map_cons, e]

set_option maxHeartbeats 1000000 in
theorem Forget_ok (R : Rd) {g : Nat} {C : Int → List Rec} {h : Hp} (hL : LogIs g C h) (hC : GoodC C) (hn : countC C ≤ 1000000) (w q : Int) :
    Fn Tryd.prog 37 [.pointer (some ⟨g, 0, .none⟩), .int .i64 w, .int .i64 q] h R (fun v h' => v = .int .i64 (forgetC C w q).2 ∧ LogIs g (forgetC C w q).1 h') := by
  obtain ⟨r, st, c, hok, hch, rfl⟩ := hL
  have hCe : chainOf st = C := funext hch
  subst hCe
  have hlen := len_le_count hC.out w
  by_cases hq : q < 1 ∨ ((chainOf st w).length : Int) < q
  · have e : forgetC (chainOf st) w q = (chainOf st, 4) := by unfold forgetC; rw [findC_miss hq]
    rw [e]
    refine fn_of_vc mixed tabOk Tryd.func37 rfl (by kernel_rfl) (Nat.le_of_ble_eq_true rfl) ?_
    refine ⟨[1], _, find_miss _ (logR_own (R := R) (h := [.blk g 77 [.map (some r)], .rows (rowsOf st)]) 0 1 hok rfl rfl) w q (by omega) hq, ?_⟩
    rintro _ _ ⟨rfl, rfl⟩
    repeat (first | (refine ⟨fun h => ?_, fun h => ?_⟩; rotate_left 1; (focus (exfalso; (first | (with_reducible (cases h; done)) | (revert h; simp; done) | (revert h; simp; omega) | (revert h; simp [*]; done)))); clear h) | (refine ⟨fun h => ?_, fun h => ?_⟩; (focus (exfalso; (first | (with_reducible (cases h; done)) | (revert h; simp; done) | (revert h; simp; omega) | (revert h; simp [*]; done)))); clear h))
    exact ⟨logH g r st c, Ent.pick [0, 1, 0] rfl, rfl, r, st, c, hok, fun _ => rfl, rfl⟩
  · obtain ⟨i, rfl⟩ : ∃ i : Nat, q = (i : Int) + 1 := ⟨(q - 1).toNat, by omega⟩
    have hin : ((i : Int) + 1 - 1).toNat = i := by omega
    by_cases hx : ∃ x ∈ st, x.w = w
    · obtain ⟨a, x, b, rfl, hw, ha⟩ := wr_split hx
      have hcx : chainOf (a ++ x :: b) w = x.l := chainOf_mid hw ha
      rw [hcx] at hlen hq
      have hil : i < x.l.length := by omega
      have hget := List.getElem?_eq_getElem hil
      generalize x.l[i] = y at hget
      obtain ⟨qa, hA⟩ := growA (hok.gr x (by simp)) (by omega)
      have hf : findC (chainOf (a ++ x :: b)) w ((i : Int) + 1) = some y := by
        unfold findC; rw [if_neg (by omega), hin, hcx]; exact hget
      have hmark := hC.mark w i y (by rw [hcx]; exact hget)
      refine Fn.pre (logS_out g r a x b c) ?_
      refine fn_of_vc mixed tabOk Tryd.func37 rfl (by kernel_rfl) (Nat.le_of_ble_eq_true rfl) ?_
      refine ⟨[1], _, find_hit (R := RH R [.blk g 77 [.map (some r)], x.row.ha, .rows (rowsOf (a ++ b))]) (ld 0 rfl rfl) w _ hw ha (by omega) (by omega) (by omega) hA, ?_⟩
      rintro _ _ ⟨rfl, rfl⟩
      rw [hin, (addA_rec qa i 0).1]
      repeat (first | (refine ⟨fun h => ?_, fun h => ?_⟩; rotate_left 1; (focus (exfalso; (first | (with_reducible (cases h; done)) | (revert h; simp; done) | (revert h; simp; omega) | (revert h; simp [*]; done)))); clear h) | (refine ⟨fun h => ?_, fun h => ?_⟩; (focus (exfalso; (first | (with_reducible (cases h; done)) | (revert h; simp; done) | (revert h; simp; omega) | (revert h; simp [*]; done)))); clear h))
      refine ⟨_, rec_at 1 hA rfl hget rfl, ?_⟩
      cases hfo : y.fo
      · repeat (first | (refine ⟨fun h => ?_, fun h => ?_⟩; rotate_left 1; (focus (exfalso; (first | (with_reducible (cases h; done)) | (revert h; simp; done) | (revert h; simp; omega) | (revert h; simp [*]; done)))); clear h) | (refine ⟨fun h => ?_, fun h => ?_⟩; (focus (exfalso; (first | (with_reducible (cases h; done)) | (revert h; simp; done) | (revert h; simp; omega) | (revert h; simp [*]; done)))); clear h))
        refine ⟨_, rec_at 1 hA rfl hget rfl, ?_⟩
        cases hhe : y.he
        · have e : forgetC (chainOf (a ++ x :: b)) w ((i : Int) + 1) = (updC (chainOf (a ++ x :: b)) w ((chainOf (a ++ x :: b) w).set i { y with fo := true }), 0) := by
            unfold forgetC; rw [hf]
            show (if y.fo = true then _ else if y.he = true then _ else _) = _
            rw [hfo, hhe, hin]; rfl
          rw [e, hcx, ← hw]
          repeat (first | (refine ⟨fun h => ?_, fun h => ?_⟩; rotate_left 1; (focus (exfalso; (first | (with_reducible (cases h; done)) | (revert h; simp; done) | (revert h; simp; omega) | (revert h; simp [*]; done)))); clear h) | (refine ⟨fun h => ?_, fun h => ?_⟩; (focus (exfalso; (first | (with_reducible (cases h; done)) | (revert h; simp; done) | (revert h; simp; omega) | (revert h; simp [*]; done)))); clear h))
          refine ⟨rfl, rfl, 1, hA, by rw [(addA_rec qa i 10).2], by rw [(addA_rec qa i 10).2]; show i * 12 + 10 + 1 ≤ (recs x.l).length; rw [recs_length]; omega, ?_⟩
          have hrow : ({ x with l := x.l.set i { y with fo := true } } : WR).row.ha = .row x.A x.l.length x.cap 79 12 (setRange (recs x.l) (addA (⟨qa, i * 12, .none⟩ : Addr) 10).off [.bool true]) (0, 0) := by
            rw [(addA_rec qa i 10).2]
            show HA.row x.A (x.l.set i _).length x.cap _ 12 (recs (x.l.set i _)) _ = HA.row _ _ _ _ _ ((recs x.l).set (i * 12 + 10) _) _
            rw [List.length_set, recs_set (y' := { y with fo := true }) (by decide) rfl hget]
            rfl
          refine ⟨_, Ent.trans (b := logS g r a { x with l := x.l.set i { y with fo := true } } b c) ?_ (logS_in g r a _ b c), rfl, LogIs.set hok (by rw [hw]; exact ha) (by rw [List.length_set]; exact hok.gr x (by simp))⟩
          unfold logS
          rw [hrow, logM_set]
          exact Ent.pick [0, 2, 0, 0] rfl
        · have e : forgetC (chainOf (a ++ x :: b)) w ((i : Int) + 1) = (chainOf (a ++ x :: b), 14) := by
            unfold forgetC; rw [hf]
            show (if y.fo = true then _ else if y.he = true then _ else _) = _
            rw [hfo, hhe]; rfl
          rw [e]
          repeat (first | (refine ⟨fun h => ?_, fun h => ?_⟩; rotate_left 1; (focus (exfalso; (first | (with_reducible (cases h; done)) | (revert h; simp; done) | (revert h; simp; omega) | (revert h; simp [*]; done)))); clear h) | (refine ⟨fun h => ?_, fun h => ?_⟩; (focus (exfalso; (first | (with_reducible (cases h; done)) | (revert h; simp; done) | (revert h; simp; omega) | (revert h; simp [*]; done)))); clear h))
          exact ⟨_, Ent.trans (b := logS g r a x b c) (Ent.pick [0, 2, 0, 0] rfl) (logS_in g r a x b c), rfl, r, _, c, hok, fun _ => rfl, rfl⟩
      · have e : forgetC (chainOf (a ++ x :: b)) w ((i : Int) + 1) = (chainOf (a ++ x :: b), 6) := by
          unfold forgetC; rw [hf]
          show (if y.fo = true then _ else _) = _
          rw [hfo]; rfl
        rw [e]
        repeat (first | (refine ⟨fun h => ?_, fun h => ?_⟩; rotate_left 1; (focus (exfalso; (first | (with_reducible (cases h; done)) | (revert h; simp; done) | (revert h; simp; omega) | (revert h; simp [*]; done)))); clear h) | (refine ⟨fun h => ?_, fun h => ?_⟩; (focus (exfalso; (first | (with_reducible (cases h; done)) | (revert h; simp; done) | (revert h; simp; omega) | (revert h; simp [*]; done)))); clear h))
        exact ⟨_, Ent.trans (b := logS g r a x b c) (Ent.pick [0, 2, 0, 0] rfl) (logS_in g r a x b c), rfl, r, _, c, hok, fun _ => rfl, rfl⟩
    · exfalso
      rw [chainOf_none (fun x hm e => hx ⟨x, hm, e⟩)] at hq
      apply hq; right; show ((0 : Nat) : Int) < _; omega

set_option maxHeartbeats 1000000 in
theorem Hold_ok (R : Rd) {g : Nat} {C : Int → List Rec} {h : Hp} (hL : LogIs g C h) (hC : GoodC C) (hn : countC C ≤ 1000000) (w q : Int) (bo : Bool) :
    Fn Tryd.prog 36 [.pointer (some ⟨g, 0, .none⟩), .int .i64 w, .int .i64 q, .bool bo] h R (fun v h' => v = .int .i64 (holdC C w q bo).2 ∧ LogIs g (holdC C w q bo).1 h') := by
  obtain ⟨r, st, c, hok, hch, rfl⟩ := hL
  have hCe : chainOf st = C := funext hch
  subst hCe
  have hlen := len_le_count hC.out w
  by_cases hq : q < 1 ∨ ((chainOf st w).length : Int) < q
  · have e : holdC (chainOf st) w q bo = (chainOf st, 4) := by unfold holdC; rw [findC_miss hq]
    rw [e]
    refine fn_of_vc mixed tabOk Tryd.func36 rfl (by kernel_rfl) (Nat.le_of_ble_eq_true rfl) ?_
    refine ⟨[1], _, find_miss _ (logR_own (R := R) (h := [.blk g 77 [.map (some r)], .rows (rowsOf st)]) 0 1 hok rfl rfl) w q (by omega) hq, ?_⟩
    rintro _ _ ⟨rfl, rfl⟩
    repeat (first | (refine ⟨fun h => ?_, fun h => ?_⟩; rotate_left 1; (focus (exfalso; (first | (with_reducible (cases h; done)) | (revert h; simp; done) | (revert h; simp; omega) | (revert h; simp [*]; done)))); clear h) | (refine ⟨fun h => ?_, fun h => ?_⟩; (focus (exfalso; (first | (with_reducible (cases h; done)) | (revert h; simp; done) | (revert h; simp; omega) | (revert h; simp [*]; done)))); clear h))
    exact ⟨logH g r st c, Ent.pick [0, 1, 0] rfl, rfl, r, st, c, hok, fun _ => rfl, rfl⟩
  · obtain ⟨i, rfl⟩ : ∃ i : Nat, q = (i : Int) + 1 := ⟨(q - 1).toNat, by omega⟩
    have hin : ((i : Int) + 1 - 1).toNat = i := by omega
    by_cases hx : ∃ x ∈ st, x.w = w
    · obtain ⟨a, x, b, rfl, hw, ha⟩ := wr_split hx
      have hcx : chainOf (a ++ x :: b) w = x.l := chainOf_mid hw ha
      rw [hcx] at hlen hq
      have hil : i < x.l.length := by omega
      have hget := List.getElem?_eq_getElem hil
      generalize x.l[i] = y at hget
      obtain ⟨qa, hA⟩ := growA (hok.gr x (by simp)) (by omega)
      have hf : findC (chainOf (a ++ x :: b)) w ((i : Int) + 1) = some y := by
        unfold findC; rw [if_neg (by omega), hin, hcx]; exact hget
      have hmark := hC.mark w i y (by rw [hcx]; exact hget)
      refine Fn.pre (logS_out g r a x b c) ?_
      refine fn_of_vc mixed tabOk Tryd.func36 rfl (by kernel_rfl) (Nat.le_of_ble_eq_true rfl) ?_
      refine ⟨[1], _, find_hit (R := RH R [.blk g 77 [.map (some r)], x.row.ha, .rows (rowsOf (a ++ b))]) (ld 0 rfl rfl) w _ hw ha (by omega) (by omega) (by omega) hA, ?_⟩
      rintro _ _ ⟨rfl, rfl⟩
      rw [hin, (addA_rec qa i 0).1]
      repeat (first | (refine ⟨fun h => ?_, fun h => ?_⟩; rotate_left 1; (focus (exfalso; (first | (with_reducible (cases h; done)) | (revert h; simp; done) | (revert h; simp; omega) | (revert h; simp [*]; done)))); clear h) | (refine ⟨fun h => ?_, fun h => ?_⟩; (focus (exfalso; (first | (with_reducible (cases h; done)) | (revert h; simp; done) | (revert h; simp; omega) | (revert h; simp [*]; done)))); clear h))
      refine ⟨_, rec_at 1 hA rfl hget rfl, ?_⟩
      cases hfo : y.fo
      · repeat (first | (refine ⟨fun h => ?_, fun h => ?_⟩; rotate_left 1; (focus (exfalso; (first | (with_reducible (cases h; done)) | (revert h; simp; done) | (revert h; simp; omega) | (revert h; simp [*]; done)))); clear h) | (refine ⟨fun h => ?_, fun h => ?_⟩; (focus (exfalso; (first | (with_reducible (cases h; done)) | (revert h; simp; done) | (revert h; simp; omega) | (revert h; simp [*]; done)))); clear h))
        have e : holdC (chainOf (a ++ x :: b)) w ((i : Int) + 1) bo = (updC (chainOf (a ++ x :: b)) w ((chainOf (a ++ x :: b) w).set i { y with he := bo }), 0) := by
          unfold holdC; rw [hf]
          show (if y.fo = true then _ else _) = _
          rw [hfo, hin]; rfl
        rw [e, hcx, ← hw]
        repeat (first | (refine ⟨fun h => ?_, fun h => ?_⟩; rotate_left 1; (focus (exfalso; (first | (with_reducible (cases h; done)) | (revert h; simp; done) | (revert h; simp; omega) | (revert h; simp [*]; done)))); clear h) | (refine ⟨fun h => ?_, fun h => ?_⟩; (focus (exfalso; (first | (with_reducible (cases h; done)) | (revert h; simp; done) | (revert h; simp; omega) | (revert h; simp [*]; done)))); clear h))
        refine ⟨rfl, rfl, 1, hA, by rw [(addA_rec qa i 11).2], by rw [(addA_rec qa i 11).2]; show i * 12 + 11 + 1 ≤ (recs x.l).length; rw [recs_length]; omega, ?_⟩
        have hrow : ({ x with l := x.l.set i { y with he := bo } } : WR).row.ha = .row x.A x.l.length x.cap 79 12 (setRange (recs x.l) (addA (⟨qa, i * 12, .none⟩ : Addr) 11).off [.bool bo]) (0, 0) := by
          rw [(addA_rec qa i 11).2]
          show HA.row x.A (x.l.set i _).length x.cap _ 12 (recs (x.l.set i _)) _ = HA.row _ _ _ _ _ ((recs x.l).set (i * 12 + 11) _) _
          rw [List.length_set, recs_set (y' := { y with he := bo }) (by decide) rfl hget]
          rfl
        refine ⟨_, Ent.trans (b := logS g r a { x with l := x.l.set i { y with he := bo } } b c) ?_ (logS_in g r a _ b c), rfl, LogIs.set hok (by rw [hw]; exact ha) (by rw [List.length_set]; exact hok.gr x (by simp))⟩
        unfold logS
        rw [hrow, logM_set]
        exact Ent.pick [0, 2, 0, 0] rfl
      · have e : holdC (chainOf (a ++ x :: b)) w ((i : Int) + 1) bo = (chainOf (a ++ x :: b), 6) := by
          unfold holdC; rw [hf]
          show (if y.fo = true then _ else _) = _
          rw [hfo]; rfl
        rw [e]
        repeat (first | (refine ⟨fun h => ?_, fun h => ?_⟩; rotate_left 1; (focus (exfalso; (first | (with_reducible (cases h; done)) | (revert h; simp; done) | (revert h; simp; omega) | (revert h; simp [*]; done)))); clear h) | (refine ⟨fun h => ?_, fun h => ?_⟩; (focus (exfalso; (first | (with_reducible (cases h; done)) | (revert h; simp; done) | (revert h; simp; omega) | (revert h; simp [*]; done)))); clear h))
        exact ⟨_, Ent.trans (b := logS g r a x b c) (Ent.pick [0, 2, 0, 0] rfl) (logS_in g r a x b c), rfl, r, _, c, hok, fun _ => rfl, rfl⟩
    · exfalso
      rw [chainOf_none (fun x hm e => hx ⟨x, hm, e⟩)] at hq
      apply hq; right; show ((0 : Nat) : Int) < _; omega

end Go.Proofs.YtbgfnofjnbpdgaaDoor
