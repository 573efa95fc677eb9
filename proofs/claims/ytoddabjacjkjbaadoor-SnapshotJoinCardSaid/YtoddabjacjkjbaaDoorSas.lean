/-
  Contract: Merge of a log with itself.
-/
import Derived.Test.YtoddabjacjkjbaaDoorSak
import Derived.Test.YtoddabjacjkjbaaDoorSan
namespace Go.Proofs.YtoddabjacjkjbaaDoor
open Go Go.RowKit
set_option linter.unusedVariables false

theorem mergeC_self {C : Lg} (hC : GoodC C) : mergeC C C = C := by
  funext w
  exact mrgL_self fun x hx => by
    obtain ⟨i, hi⟩ := List.getElem?_of_mem hx
    exact hC.mark _ _ _ hi

set_option maxRecDepth 100000 in
set_option maxHeartbeats 8000000 in
theorem Merge_self (R : Rd) {g1 : Nat} {C : Lg} {h1 : Hp} (hL1 : LogIs g1 C h1) (hC : GoodC C) (hn : countC C ≤ 4096) :
    Fn Tryd.prog 33 [.pointer (some ⟨g1, 0, .none⟩), .pointer (some ⟨g1, 0, .none⟩)] h1 R (fun v h' => v = .int .i64 0 ∧ LogIs g1 C h') := by
  obtain ⟨r1, st1, c1, hok1, hcC, rfl⟩ := hL1
  have hcD := hcC
  have hself := mergeC_self hC
  refine fn_rows 2 rfl (callable Tryd.func33 rfl (by kernel_rfl)) fun hcp1 => ?_
  have hcap1 : ∀ x ∈ st1, x.l.length ≤ x.cap := fun x hx => hcp1 x.row (List.mem_map.2 ⟨x, hx, rfl⟩)
  clear hcp1
  refine fn_of_vc mixed tabOk Tryd.func33 rfl (by kernel_rfl) (Nat.le_of_ble_eq_true rfl) ?_
  refine ⟨[none, none, none, none, some 4, some 5, some 6, some 7, some 8, some 9, none, none, some 12, some 13, some 14, some 15, some 16, some 17, some 18, some 19, some 20, some 21, some 22, some 23, some 24, some 25, some 26, some 27, some 28, some 29, some 30, some 31, some 32, some 33, some 34, some 35, some 36, some 37, some 38, some 39, some 40, some 41, some 42, some 43, some 44, some 45, some 46, some 47], [5, 12], Nat, fun w => w ≤ 12, fun w => [.int .i64 (mcount C C w), .int .i64 w],
    fun w => [.blk g1 161 [.map (some r1)], logM r1 st1 c1, .rows (rowsOf st1)], fun w => 12 - w, 0, Nat.zero_le _, ⟨rfl, rfl, trivial⟩, Ent.refl _, ?_⟩
  intro w hw js
  have hmw := mcount_le C C w hw
  rw [hself] at hmw
  refine ⟨fun hb0 => ?_, fun hb0 => ?_⟩
  · have hb1 := of_decide_eq_true hb0
    have hw12 : w < 12 := by omega
    clear hb0 hb1
    have hlC := len_le_count hC.out w
    refine ⟨[0], (.q 0 (.q 1 (.q 2 (.q 3 (.q 4 (.q 6 (.q 7 (.q 8 (.q 9 (.q 10 (.two 5 (.q 12 (.one 11 (.q 13 .nil))) 11 (.one 5 (.q 12 (.q 13 .nil)))))))))))))), by kernel_rfl, ?_⟩
    refine ⟨_, ld 0 rfl rfl, ?_⟩
    refine ⟨_, ld 0 rfl rfl, ?_⟩
    refine ⟨?_, ?_⟩
    · refine ⟨0, rfl, like_ents _ _, ?_⟩
      rintro v b hf
      obtain ⟨A, cA, rfl, hcA, hrA⟩ := found_sl hok1 hcap1 hf (hcC (w : Int))
      clear hf
      refine ⟨0, rfl, like_ents _ _, ?_⟩
      rintro v b hf
      obtain ⟨B, cB, rfl, hcB, hrB⟩ := found_sl hok1 hcap1 hf (hcD (w : Int))
      clear hf
      obtain ⟨n, hn1⟩ : ∃ n, n = min (C w).length (C w).length := ⟨_, rfl⟩
      intro z hz; obtain rfl : z = (n : Int) := by omega
      clear hz
      refine ⟨[], (.q 0 (.q 1 (.q 2 (.q 3 (.q 4 (.q 5 (.one 6 (.q 7 .nil)))))))), by kernel_rfl, ?_⟩
      refine ⟨0, n, rfl, rfl, Nat.zero_le _, by omega, ?_⟩
      refine ⟨0, n, rfl, rfl, Nat.zero_le _, by omega, ?_⟩
      refine ⟨[], _, Equal_pre _ (hrA _ _ 2 rfl) (hrB _ _ 2 rfl) hcA hcB hn1 (by omega), ?_⟩
      rw [agreeB_self]
      rintro _ _ ⟨rfl, rfl⟩
      repeat (first | (refine ⟨fun h => ?_, fun h => ?_⟩; rotate_left 1; (focus (exfalso; (first | (with_reducible (cases h; done)) | (revert h; simp; done) | (revert h; simp; omega) | (revert h; simp [*]; done)))); clear h) | (refine ⟨fun h => ?_, fun h => ?_⟩; (focus (exfalso; (first | (with_reducible (cases h; done)) | (revert h; simp; done) | (revert h; simp; omega) | (revert h; simp [*]; done)))); clear h))
      intro z hz; obtain rfl : z = ((max (C w).length (C w).length : Nat) : Int) := by omega
      clear hz
      intro z hz; obtain rfl : z = ((mcount C C (w + 1) : Nat) : Int) := by rw [IntKind.wrap_i64] at hz; rw [mcount_succ]; omega
      clear hz
      (intro z hz; obtain rfl : z = ((w + 1 : Nat) : Int) := (by first | (rw [IntKind.wrap_i64] at hz; omega) | (rw [IntKind.wrap_u64] at hz; omega) | omega); clear hz)
      exact ⟨rfl, w + 1, hw12, by show 12 - (w + 1) < 12 - w; omega, ⟨rfl, rfl, trivial⟩, Ent.refl _, rfl⟩
    · refine ⟨0, rfl, like_ents _ _, ?_⟩
      rintro v b hf
      obtain ⟨B, cB, rfl, hcB, hrB⟩ := found_sl hok1 hcap1 hf (hcD (w : Int))
      clear hf
      refine ⟨0, rfl, like_ents _ _, ?_⟩
      rintro v b hf
      obtain ⟨A, cA, rfl, hcA, hrA⟩ := found_sl hok1 hcap1 hf (hcC (w : Int))
      clear hf
      obtain ⟨n, hn1⟩ : ∃ n, n = min (C w).length (C w).length := ⟨_, rfl⟩
      intro z hz; obtain rfl : z = (n : Int) := by omega
      clear hz
      refine ⟨[], (.q 0 (.q 1 (.q 2 (.q 3 (.q 4 (.q 5 (.one 6 (.q 7 .nil)))))))), by kernel_rfl, ?_⟩
      refine ⟨0, n, rfl, rfl, Nat.zero_le _, by omega, ?_⟩
      refine ⟨0, n, rfl, rfl, Nat.zero_le _, by omega, ?_⟩
      refine ⟨[], _, Equal_pre _ (hrA _ _ 2 rfl) (hrB _ _ 2 rfl) hcA hcB hn1 (by omega), ?_⟩
      rw [agreeB_self]
      rintro _ _ ⟨rfl, rfl⟩
      repeat (first | (refine ⟨fun h => ?_, fun h => ?_⟩; rotate_left 1; (focus (exfalso; (first | (with_reducible (cases h; done)) | (revert h; simp; done) | (revert h; simp; omega) | (revert h; simp [*]; done)))); clear h) | (refine ⟨fun h => ?_, fun h => ?_⟩; (focus (exfalso; (first | (with_reducible (cases h; done)) | (revert h; simp; done) | (revert h; simp; omega) | (revert h; simp [*]; done)))); clear h))
      intro z hz; obtain rfl : z = ((max (C w).length (C w).length : Nat) : Int) := by omega
      clear hz
      intro z hz; obtain rfl : z = ((mcount C C (w + 1) : Nat) : Int) := by rw [IntKind.wrap_i64] at hz; rw [mcount_succ]; omega
      clear hz
      (intro z hz; obtain rfl : z = ((w + 1 : Nat) : Int) := (by first | (rw [IntKind.wrap_i64] at hz; omega) | (rw [IntKind.wrap_u64] at hz; omega) | omega); clear hz)
      exact ⟨rfl, w + 1, hw12, by show 12 - (w + 1) < 12 - w; omega, ⟨rfl, rfl, trivial⟩, Ent.refl _, rfl⟩
  · have hb1 := of_decide_eq_false hb0
    obtain rfl : w = 12 := by omega
    clear hb0 hb1
    have hma := mcount_all C C
    rw [hself] at hma
    have hfull : ¬ (4096 : Int) < (mcount C C 12 : Nat) := by omega
    repeat (first | (refine ⟨fun h => ?_, fun h => ?_⟩; rotate_left 1; (focus (exfalso; (first | (with_reducible (cases h; done)) | (revert h; simp; done) | (revert h; simp; omega) | (revert h; simp [*]; done)))); clear h) | (refine ⟨fun h => ?_, fun h => ?_⟩; (focus (exfalso; (first | (with_reducible (cases h; done)) | (revert h; simp; done) | (revert h; simp; omega) | (revert h; simp [*]; done)))); clear h))
    refine ⟨[none, none, none, none, none, none, none, none, none, none, some 10, some 11, none, none, none, none, none, none, none, none, none, none, none, none, none, none, none, none, none, none, none, none, none, none, none, none, none, none, none, none, none, none, none, none, none, none, none, none, none, none, some 50, some 51, some 52, some 53, some 54, some 55, some 56, some 57, some 58, some 59, some 60, some 61, some 62, some 63, some 64, some 65, some 66, some 67, some 68, some 69, some 70, some 71, some 72, some 73, some 74, some 75], [50], Nat × List WR × Nat, fun ⟨w, st, c⟩ => w ≤ 12 ∧ LogOk st c ∧ (∀ v : Int, chainOf st v = if v < w then mrgL (C v) (C v) else C v) ∧ ∀ x ∈ st, x.l.length ≤ x.cap, fun ⟨w, _, _⟩ => [.int .i64 w],
      fun ⟨w, st, c⟩ => [.blk g1 161 [.map (some r1)], logM r1 st c, .rows (rowsOf st)], fun ⟨w, _, _⟩ => 12 - w, (0, st1, c1), ⟨Nat.zero_le _, hok1, fun v => ?_, hcap1⟩, ⟨rfl, trivial⟩, Ent.refl _, ?_⟩
    · rw [hcC]
      have h0 : mrgL (C v) (C v) = C v := congrFun hself v
      rw [h0, ite_self]
    rintro ⟨w, st, c⟩ ⟨hw, hok, hch, hcap⟩ js2
    refine ⟨fun hb0 => ?_, fun hb0 => ?_⟩
    · have hb1 := of_decide_eq_true hb0
      have hw12 : w < 12 := by omega
      clear hb0 hb1
      have hlC := len_le_count hC.out w
      have hchw : chainOf st (w : Int) = C w := by rw [hch, if_neg (by omega)]
      refine ⟨[0], (.q 0 (.q 1 (.q 2 (.q 3 (.q 4 (.q 6 (.q 7 (.q 8 (.q 9 (.q 10 (.two 5 (.one 11 (.one 12 (.q 13 .nil))) 11 (.one 5 (.one 12 (.q 13 .nil)))))))))))))), by kernel_rfl, ?_⟩
      refine ⟨_, ld 0 rfl rfl, ?_⟩
      refine ⟨_, ld 0 rfl rfl, ?_⟩
      refine ⟨?_, ?_⟩
      · refine ⟨0, rfl, like_ents _ _, ?_⟩
        rintro v b hf
        obtain ⟨A, cA, rfl, hcA, hrA⟩ := found_sl hok hcap hf hchw
        clear hf
        refine ⟨0, rfl, like_ents _ _, ?_⟩
        rintro v b hf
        obtain ⟨B, cB, rfl, hcB, hrB⟩ := found_sl hok hcap hf hchw
        clear hf
        refine ⟨[], _, merged_okC _ (hrA _ _ 1 rfl) (hrB _ _ 1 rfl) hcA hcB (by omega) (by omega), ?_⟩
        rintro _ _ ⟨A', cap', hg', hcap', rfl, rfl⟩
        have hchn : ∀ (f : Int → List Rec), (∀ v : Int, v ≠ (w : Int) → f v = chainOf st v) → f w = mrgL (C w) (C w) → ∀ v : Int, f v = if v < ((w + 1 : Nat) : Int) then mrgL (C v) (C v) else C v := fun f h1 h2 v => by
          by_cases hv : v = (w : Int)
          · rw [hv, h2, if_pos (by omega)]
          · rw [h1 v hv, hch]
            by_cases hv2 : v < (w : Int)
            · rw [if_pos hv2, if_pos (by omega)]
            · rw [if_neg hv2, if_neg (by omega)]
        by_cases hz : (mrgL (C w) (C w)).length = 0
        · repeat (first | (refine ⟨fun h => ?_, fun h => ?_⟩; rotate_left 1; (focus (exfalso; (first | (with_reducible (cases h; done)) | (revert h; simp; done) | (revert h; simp; omega) | (revert h; simp [*]; done)))); clear h) | (refine ⟨fun h => ?_, fun h => ?_⟩; (focus (exfalso; (first | (with_reducible (cases h; done)) | (revert h; simp; done) | (revert h; simp; omega) | (revert h; simp [*]; done)))); clear h))
          (intro z hz; obtain rfl : z = ((w + 1 : Nat) : Int) := (by first | (rw [IntKind.wrap_i64] at hz; omega) | (rw [IntKind.wrap_u64] at hz; omega) | omega); clear hz)
          refine ⟨rfl, (w + 1, st, c), ⟨hw12, hok, hchn _ (fun v _ => rfl) ?_, hcap⟩, by show 12 - (w + 1) < 12 - w; omega, ⟨rfl, trivial⟩, Ent.pick [0, 0, 0] rfl, rfl⟩
          have h1 := mrgL_length (C w) (C w)
          rw [hchw, List.eq_nil_of_length_eq_zero hz]
          exact List.eq_nil_of_length_eq_zero (by omega)
        repeat (first | (refine ⟨fun h => ?_, fun h => ?_⟩; rotate_left 1; (focus (exfalso; (first | (with_reducible (cases h; done)) | (revert h; simp; done) | (revert h; simp; omega) | (revert h; simp [*]; done)))); clear h) | (refine ⟨fun h => ?_, fun h => ?_⟩; (focus (exfalso; (first | (with_reducible (cases h; done)) | (revert h; simp; done) | (revert h; simp; omega) | (revert h; simp [*]; done)))); clear h))
        refine ⟨_, ld 0 rfl rfl, ?_⟩
        refine ⟨1, rfl, like_ents _ _, ?_⟩
        rintro es' c' hu
        by_cases hx : ∃ x ∈ st, x.w = (w : Int)
        · obtain ⟨p, x, q, rfl, hxw, hp⟩ := wr_split hx
          obtain ⟨rfl, hcc⟩ := upd_mid (A := A') (cap := cap') (l := mrgL (C w) (C w)) hxw hp rfl hu
          replace hcc := hcc.symm
          subst hcc
          clear hu
          (intro z hz; obtain rfl : z = ((w + 1 : Nat) : Int) := (by first | (rw [IntKind.wrap_i64] at hz; omega) | (rw [IntKind.wrap_u64] at hz; omega) | omega); clear hz)
          refine ⟨rfl, (w + 1, p ++ { x with A := A', cap := cap', l := mrgL (C w) (C w) } :: q, c), ⟨hw12, hok.set hg', hchn _ (fun v hv => chainOf_other (x := { x with A := A', cap := cap', l := mrgL (C w) (C w) }) (y := x) (fun e => hv (by rw [← e, ← hxw])) (fun e => hv (by rw [← e, ← hxw]))) (chainOf_mid (x := { x with A := A', cap := cap', l := mrgL (C w) (C w) }) hxw hp), fun y hy => ?_⟩, by show 12 - (w + 1) < 12 - w; omega, ⟨rfl, trivial⟩, ?_, rfl⟩
          · rcases List.mem_append.1 hy with hy | hy
            · exact hcap y (by simp [hy])
            · rcases List.mem_cons.1 hy with rfl | hy
              · exact hcap'
              · exact hcap y (by simp [hy])
          · exact Ent.trans (b := [.blk g1 161 [.map (some r1)], logM r1 (p ++ { x with A := A', cap := cap', l := mrgL (C w) (C w) } :: q) c, .rows (rowsOf (p ++ x :: q)), ({ x with A := A', cap := cap', l := mrgL (C w) (C w) } : WR).row.ha]) (Ent.pick [0, 0, 0, 0] rfl) (Ent.app (Ent.refl [_, _]) (rows_swap p q x A' cap' _))
        · have hx' : ∀ x ∈ st, x.w ≠ (w : Int) := fun x hm e => hx ⟨x, hm, e⟩
          obtain ⟨rfl, rfl⟩ := upd_new (A := A') (cap := cap') (l := mrgL (C w) (C w)) hx' rfl hu
          clear hu
          (intro z hz; obtain rfl : z = ((w + 1 : Nat) : Int) := (by first | (rw [IntKind.wrap_i64] at hz; omega) | (rw [IntKind.wrap_u64] at hz; omega) | omega); clear hz)
          refine ⟨rfl, (w + 1, st ++ [⟨w, A', cap', c, mrgL (C w) (C w)⟩], c + 1), ⟨hw12, hok.new (by omega) hx' hg', hchn _ (fun v hv => chainOf_new (y := ⟨w, A', cap', c, mrgL (C w) (C w)⟩) (fun e => hv e.symm)) (chainOf_mid (x := ⟨w, A', cap', c, mrgL (C w) (C w)⟩) rfl hx'), fun y hy => ?_⟩, by show 12 - (w + 1) < 12 - w; omega, ⟨rfl, trivial⟩, ?_, rfl⟩
          · rcases List.mem_append.1 hy with hy | hy
            · exact hcap y hy
            · rw [List.mem_singleton.1 hy]; exact hcap'
          · exact Ent.trans (b := [.blk g1 161 [.map (some r1)], logM r1 (st ++ [(⟨w, A', cap', c, mrgL (C w) (C w)⟩ : WR)]) (c + 1), .rows (rowsOf st), (⟨w, A', cap', c, mrgL (C w) (C w)⟩ : WR).row.ha]) (Ent.pick [0, 0, 0, 0] rfl) (Ent.app (Ent.refl [_, _]) (rows_add st _))
      · refine ⟨0, rfl, like_ents _ _, ?_⟩
        rintro v b hf
        obtain ⟨B, cB, rfl, hcB, hrB⟩ := found_sl hok hcap hf hchw
        clear hf
        refine ⟨0, rfl, like_ents _ _, ?_⟩
        rintro v b hf
        obtain ⟨A, cA, rfl, hcA, hrA⟩ := found_sl hok hcap hf hchw
        clear hf
        refine ⟨[], _, merged_okC _ (hrA _ _ 1 rfl) (hrB _ _ 1 rfl) hcA hcB (by omega) (by omega), ?_⟩
        rintro _ _ ⟨A', cap', hg', hcap', rfl, rfl⟩
        have hchn : ∀ (f : Int → List Rec), (∀ v : Int, v ≠ (w : Int) → f v = chainOf st v) → f w = mrgL (C w) (C w) → ∀ v : Int, f v = if v < ((w + 1 : Nat) : Int) then mrgL (C v) (C v) else C v := fun f h1 h2 v => by
          by_cases hv : v = (w : Int)
          · rw [hv, h2, if_pos (by omega)]
          · rw [h1 v hv, hch]
            by_cases hv2 : v < (w : Int)
            · rw [if_pos hv2, if_pos (by omega)]
            · rw [if_neg hv2, if_neg (by omega)]
        by_cases hz : (mrgL (C w) (C w)).length = 0
        · repeat (first | (refine ⟨fun h => ?_, fun h => ?_⟩; rotate_left 1; (focus (exfalso; (first | (with_reducible (cases h; done)) | (revert h; simp; done) | (revert h; simp; omega) | (revert h; simp [*]; done)))); clear h) | (refine ⟨fun h => ?_, fun h => ?_⟩; (focus (exfalso; (first | (with_reducible (cases h; done)) | (revert h; simp; done) | (revert h; simp; omega) | (revert h; simp [*]; done)))); clear h))
          (intro z hz; obtain rfl : z = ((w + 1 : Nat) : Int) := (by first | (rw [IntKind.wrap_i64] at hz; omega) | (rw [IntKind.wrap_u64] at hz; omega) | omega); clear hz)
          refine ⟨rfl, (w + 1, st, c), ⟨hw12, hok, hchn _ (fun v _ => rfl) ?_, hcap⟩, by show 12 - (w + 1) < 12 - w; omega, ⟨rfl, trivial⟩, Ent.pick [0, 0, 0] rfl, rfl⟩
          have h1 := mrgL_length (C w) (C w)
          rw [hchw, List.eq_nil_of_length_eq_zero hz]
          exact List.eq_nil_of_length_eq_zero (by omega)
        repeat (first | (refine ⟨fun h => ?_, fun h => ?_⟩; rotate_left 1; (focus (exfalso; (first | (with_reducible (cases h; done)) | (revert h; simp; done) | (revert h; simp; omega) | (revert h; simp [*]; done)))); clear h) | (refine ⟨fun h => ?_, fun h => ?_⟩; (focus (exfalso; (first | (with_reducible (cases h; done)) | (revert h; simp; done) | (revert h; simp; omega) | (revert h; simp [*]; done)))); clear h))
        refine ⟨_, ld 0 rfl rfl, ?_⟩
        refine ⟨1, rfl, like_ents _ _, ?_⟩
        rintro es' c' hu
        by_cases hx : ∃ x ∈ st, x.w = (w : Int)
        · obtain ⟨p, x, q, rfl, hxw, hp⟩ := wr_split hx
          obtain ⟨rfl, hcc⟩ := upd_mid (A := A') (cap := cap') (l := mrgL (C w) (C w)) hxw hp rfl hu
          replace hcc := hcc.symm
          subst hcc
          clear hu
          (intro z hz; obtain rfl : z = ((w + 1 : Nat) : Int) := (by first | (rw [IntKind.wrap_i64] at hz; omega) | (rw [IntKind.wrap_u64] at hz; omega) | omega); clear hz)
          refine ⟨rfl, (w + 1, p ++ { x with A := A', cap := cap', l := mrgL (C w) (C w) } :: q, c), ⟨hw12, hok.set hg', hchn _ (fun v hv => chainOf_other (x := { x with A := A', cap := cap', l := mrgL (C w) (C w) }) (y := x) (fun e => hv (by rw [← e, ← hxw])) (fun e => hv (by rw [← e, ← hxw]))) (chainOf_mid (x := { x with A := A', cap := cap', l := mrgL (C w) (C w) }) hxw hp), fun y hy => ?_⟩, by show 12 - (w + 1) < 12 - w; omega, ⟨rfl, trivial⟩, ?_, rfl⟩
          · rcases List.mem_append.1 hy with hy | hy
            · exact hcap y (by simp [hy])
            · rcases List.mem_cons.1 hy with rfl | hy
              · exact hcap'
              · exact hcap y (by simp [hy])
          · exact Ent.trans (b := [.blk g1 161 [.map (some r1)], logM r1 (p ++ { x with A := A', cap := cap', l := mrgL (C w) (C w) } :: q) c, .rows (rowsOf (p ++ x :: q)), ({ x with A := A', cap := cap', l := mrgL (C w) (C w) } : WR).row.ha]) (Ent.pick [0, 0, 0, 0] rfl) (Ent.app (Ent.refl [_, _]) (rows_swap p q x A' cap' _))
        · have hx' : ∀ x ∈ st, x.w ≠ (w : Int) := fun x hm e => hx ⟨x, hm, e⟩
          obtain ⟨rfl, rfl⟩ := upd_new (A := A') (cap := cap') (l := mrgL (C w) (C w)) hx' rfl hu
          clear hu
          (intro z hz; obtain rfl : z = ((w + 1 : Nat) : Int) := (by first | (rw [IntKind.wrap_i64] at hz; omega) | (rw [IntKind.wrap_u64] at hz; omega) | omega); clear hz)
          refine ⟨rfl, (w + 1, st ++ [⟨w, A', cap', c, mrgL (C w) (C w)⟩], c + 1), ⟨hw12, hok.new (by omega) hx' hg', hchn _ (fun v hv => chainOf_new (y := ⟨w, A', cap', c, mrgL (C w) (C w)⟩) (fun e => hv e.symm)) (chainOf_mid (x := ⟨w, A', cap', c, mrgL (C w) (C w)⟩) rfl hx'), fun y hy => ?_⟩, by show 12 - (w + 1) < 12 - w; omega, ⟨rfl, trivial⟩, ?_, rfl⟩
          · rcases List.mem_append.1 hy with hy | hy
            · exact hcap y hy
            · rw [List.mem_singleton.1 hy]; exact hcap'
          · exact Ent.trans (b := [.blk g1 161 [.map (some r1)], logM r1 (st ++ [(⟨w, A', cap', c, mrgL (C w) (C w)⟩ : WR)]) (c + 1), .rows (rowsOf st), (⟨w, A', cap', c, mrgL (C w) (C w)⟩ : WR).row.ha]) (Ent.pick [0, 0, 0, 0] rfl) (Ent.app (Ent.refl [_, _]) (rows_add st _))
    · have hb1 := of_decide_eq_false hb0
      obtain rfl : w = 12 := by have hw : w ≤ 12 := hw; omega
      refine ⟨_, Ent.refl _, rfl, r1, st, c, hok, fun v => ?_, rfl⟩
      have h0 : mrgL (C v) (C v) = C v := congrFun hself v
      rw [hch, h0, ite_self]

end Go.Proofs.YtoddabjacjkjbaaDoor
