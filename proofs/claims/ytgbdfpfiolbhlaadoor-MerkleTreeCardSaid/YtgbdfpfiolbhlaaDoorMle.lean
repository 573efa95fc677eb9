/-
  Trees that grow: the contract of Add.
-/
import Derived.Test.YtgbdfpfiolbhlaaDoorMld
namespace Go.Proofs.YtgbdfpfiolbhlaaDoor
open Go Go.RowKit
set_option linter.unusedVariables false

theorem LenS (R : Rd) (g gl K cl : Nat) (ls : List Value) (lm : Nat → Lm) (l : List Str) (h : TreeS l K ls lm) :
    Fn Tryd.prog 50 [.pointer (some ⟨g, 0, .none⟩)] (treeL g gl K cl ls lm) R (fun v h => v = .int .i64 (lm 0).n ∧ h = treeL g gl K cl ls lm) := by
  have hk1 := h.k1
  have hk5 := h.k5
  refine fn_of_vc mixed tabOk Tryd.func50 rfl (by kernel_rfl) (Nat.le_of_ble_eq_true rfl) ?_
  refine ⟨_, ld 0 rfl rfl, ?_⟩
  repeat (first | (refine ⟨fun h => ?_, fun h => ?_⟩; rotate_left 1; (focus (exfalso; (first | (with_reducible (cases h; done)) | (revert h; simp; done) | (revert h; simp; omega) | (revert h; simp [*]; done)))); clear h) | (refine ⟨fun h => ?_, fun h => ?_⟩; (focus (exfalso; (first | (with_reducible (cases h; done)) | (revert h; simp; done) | (revert h; simp; omega) | (revert h; simp [*]; done)))); clear h))
  refine ⟨_, ld 0 rfl rfl, ?_⟩
  refine ⟨by decide, by omega, _, rfl, ?_⟩
  refine ⟨(lm 0).val, ldr 1 rfl (by rw [h.ls, List.getElem?_take, if_pos (by omega)]; rfl), ?_⟩
  exact ⟨_, Ent.refl _, rfl, rfl⟩

set_option maxRecDepth 100000 in
set_option maxHeartbeats 4000000 in
theorem Add_ok (R : Rd) (hG : ShaG R) (g : Nat) (l : List Str) (x : Str) (h : Hp) (hl : Small (l ++ [x])) (hl25 : l.length + 1 ≤ 25) (hx : x.length = 32) (hT : IsTree g l h) :
    Fn Tryd.prog 46 [.pointer (some ⟨g, 0, .none⟩), .string ⟨⟨x⟩⟩] h R (fun v h => v = .tuple ⟨[.int .i64 l.length, .int .i64 0]⟩ ∧ IsTree g (l ++ [x]) h) := by
  obtain ⟨gl0, K0, cl0, ls0, lm0, hT, rfl⟩ := hT
  have hML := maxLen_eq
  refine fn_of_vc mixed tabOk Tryd.func46 rfl (by kernel_rfl) (Nat.le_of_ble_eq_true rfl) ?_
  refine ⟨[], _, isSum_ok _ x, ?_⟩
  rintro _ _ ⟨rfl, rfl⟩
  repeat (first | (refine ⟨fun h => ?_, fun h => ?_⟩; rotate_left 1; (focus (exfalso; (first | (with_reducible (cases h; done)) | (revert h; simp; done) | (revert h; simp; omega) | (revert h; simp [*]; done)))); clear h) | (refine ⟨fun h => ?_, fun h => ?_⟩; (focus (exfalso; (first | (with_reducible (cases h; done)) | (revert h; simp; done) | (revert h; simp; omega) | (revert h; simp [*]; done)))); clear h))
  refine ⟨[0, 0, 0, 0, 0, 0, 0], _, LenS _ g gl0 K0 cl0 ls0 lm0 l hT, ?_⟩
  rintro _ _ ⟨rfl, rfl⟩
  have hn0 : (lm0 0).n = l.length := by rw [(hT.vs 0 (by omega)).n, lvl_zero]
  repeat (first | (refine ⟨fun h => ?_, fun h => ?_⟩; rotate_left 1; (focus (exfalso; (first | (with_reducible (cases h; done)) | (revert h; simp; done) | (revert h; simp; omega) | (revert h; simp [*]; done)))); clear h) | (refine ⟨fun h => ?_, fun h => ?_⟩; (focus (exfalso; (first | (with_reducible (cases h; done)) | (revert h; simp; done) | (revert h; simp; omega) | (revert h; simp [*]; done)))); clear h))
  refine ⟨[none, none, none, none, some 4, some 5, none, some 7, some 8, some 9, none, none, none, none, none, none, none, none, some 18, some 19, some 20, some 21, some 22, some 23, some 24, some 25, some 26, some 27, some 28, some 29, some 30, some 31, some 32, some 33, some 34, some 35, some 36, some 37, some 38, some 39, some 40, some 41, some 42, some 43, some 44, some 45, some 46, some 47, some 48, some 49, some 50, some 51, some 52, some 53, some 54, some 55, some 56, some 57, some 58, some 59, some 60, some 61, some 62, some 63, some 64, some 65, some 66, some 67, some 68, some 69, some 70, some 71], [7, 8], Nat × Nat × Nat × Nat × List Value × (Nat → Lm) × Str, fun ⟨j, K, cl, gl, ls, lm, root⟩ => j ≤ 4 ∧ Mid l x j K ls lm root, fun ⟨j, K, cl, gl, ls, lm, root⟩ => [.string ⟨⟨root⟩⟩, .int .i64 j],
    fun ⟨j, K, cl, gl, ls, lm, root⟩ => treeL g gl K cl ls lm, fun ⟨j, _⟩ => 5 - j, (0, K0, cl0, gl0, ls0, lm0, x), ⟨Nat.zero_le _, Mid.start x hT⟩, ⟨rfl, rfl, trivial⟩, Ent.refl _, ?_⟩
  rintro ⟨j, K, cl, gl, ls, lm, root⟩ ⟨hj4, hM⟩ js
  have hk1 := hM.k1
  have hk5 := hM.k5
  have hjk := hM.jk
  have hrl := hM.root_small hl
  obtain rfl | rfl | rfl | rfl | rfl : j = 0 ∨ j = 1 ∨ j = 2 ∨ j = 3 ∨ j = 4 := by omega
  · have hbl : (lm 0).n ≤ 24 := by
      rw [(hM.hi 0 (Nat.le_refl _) (by omega)).n, lvl_length]
      exact Nat.le_trans (Nat.div_le_self _ _) (by omega)
    refine ⟨_, ld 0 rfl rfl, ?_⟩
    have hlt : 0 < K := by omega
    refine ⟨fun hb => absurd (of_decide_eq_true hb) (by omega), fun _ => ?_⟩
    have hrow := hM.row (K' := K) (ls' := ls) (by omega) (.inl ⟨rfl, hlt, rfl⟩) Lm.no
    refine ⟨[0,0], (.q 0 (.q 1 (.q 2 (.q 3 (.q 4 (.q 5 (.q 6 (.q 7 (.q 8 (.q 9 (.q 10 (.q 11 (.q 12 (.one 13 (.one 14 (.q 15 (.fin 16))))))))))))))))), by kernel_rfl, ?_⟩
    refine ⟨_, ld 0 rfl rfl, ?_⟩
    refine ⟨_, ld 0 rfl rfl, ?_⟩
    refine ⟨by omega, by omega, _, rfl, ?_⟩
    refine ⟨(lm 0).val, ldr1 1 rfl hrow.2.1, ?_⟩
    refine ⟨rfl, fun g3 => ?_⟩
    refine ⟨[.string ⟨⟨root⟩⟩], rfl, rdRow 5 rfl, rfl, by show (_ + _) * 16 ≤ _; omega, by omega, .inr ⟨0, rfl, rfl, rfl, rfl, rfl, rfl, fun A2 c2 hg2 => ?_⟩⟩
    refine ⟨by omega, by omega, _, rfl, ?_⟩
    refine ⟨rfl, rfl, 1, rfl, rfl, hrow.2.2, ?_⟩
    refine ⟨_, ld 0 rfl rfl, ?_⟩
    refine ⟨by omega, by omega, _, rfl, ?_⟩
    refine ⟨.slice A2 ((lm 0).n + 1) c2, ldr1 1 rfl (List.getElem?_set_self hrow.2.2), ?_⟩
    refine ⟨by decide, ?_⟩
    intro z hz
    obtain rfl : z = ((((lm 0).n + 1) % 2 : Nat) : Int) := hz
    refine ⟨fun hb => ?_, fun hb => ?_⟩
    · replace hb := of_decide_eq_false (Bool.not_eq_true' _ ▸ hb)
      refine ⟨_, Ent.drop (treeL g gl K cl (ls.set 0 (Value.slice A2 ((lm 0).n + 1) c2)) (upd lm 0 ⟨A2, c2, (lm 0).n + 1, (lm 0).xs ++ [Value.string (⟨⟨root⟩⟩ : ByteArray)]⟩)) [_], ?_, gl, K, cl, _, _, hM.fin (by omega) (by omega) (.inl ⟨rfl, hlt, rfl⟩) (by omega) c2 hg2, rfl⟩
      rw [(hT.vs 0 (by omega)).n, lvl_zero]; rfl
    · replace hb := of_decide_eq_true (Bool.not_eq_false' _ ▸ hb)
      have hbc := hM.before_cell (by omega) (by omega)
      have hn2 := hM.next (A := A2) (by omega) (by omega) (.inl ⟨rfl, hlt, rfl⟩) (by omega) c2 hg2
      obtain ⟨q, rfl⟩ := growA hg2 (by omega)
      intro z hz
      obtain rfl : z = (((lm 0).n - 1 : Nat) : Int) := (by rw [IntKind.wrap_i64] at hz; omega)
      clear hz
      refine ⟨by omega, by omega, _, rfl, ?_⟩
      refine ⟨_, ldr1 2 rfl hbc.1, ?_⟩
      refine ⟨[], _, Node_ok _ (hG.rh _) (before l x 0) root (by have := before_small hl 0; omega) (by omega), ?_⟩
      rintro _ _ ⟨rfl, rfl⟩
      (intro z hz; obtain rfl : z = ((0 + 1 : Nat) : Int) := (by first | (rw [IntKind.wrap_i64] at hz; omega) | (rw [IntKind.wrap_u64] at hz; omega) | omega); clear hz)
      exact ⟨rfl, (0 + 1, K, cl, gl, _, _, _), ⟨by omega, hn2⟩, by show 5 - (0 + 1) < 5 - 0; omega, ⟨rfl, rfl, trivial⟩, Ent.drop (treeL g gl K cl (ls.set 0 (Value.slice (some ⟨q, 0, .none⟩) ((lm 0).n + 1) c2)) (upd lm 0 ⟨some ⟨q, 0, .none⟩, c2, (lm 0).n + 1, (lm 0).xs ++ [Value.string (⟨⟨root⟩⟩ : ByteArray)]⟩)) [_], rfl⟩
  · have hbl : (lm 1).n ≤ 24 := by
      rw [(hM.hi 1 (Nat.le_refl _) (by omega)).n, lvl_length]
      exact Nat.le_trans (Nat.div_le_self _ _) (by omega)
    refine ⟨_, ld 0 rfl rfl, ?_⟩
    by_cases e : 1 = K
    · subst e
      refine ⟨fun _ => ?_, fun hb => absurd rfl (of_decide_eq_false hb)⟩
      refine ⟨_, ld 0 rfl rfl, ?_⟩
      refine ⟨rfl, fun g2 => ?_⟩
      refine ⟨[.slice .none 0 0], rfl, rdRow 7 rfl, rfl, by show (_ + _) * 24 ≤ _; omega, by omega, .inr ⟨1, rfl, rfl, rfl, rfl, rfl, rfl, fun A' cl' hgl => ?_⟩⟩
      obtain ⟨gl', rfl⟩ := growA hgl (by omega)
      refine ⟨rfl, rfl, 0, rfl, rfl, Nat.le_of_ble_eq_true rfl, ?_⟩
      have hrow := hM.row (K' := (1 + 1)) (ls' := (ls ++ [Value.slice .none 0 0])) (by omega) (.inr ⟨rfl, rfl, rfl⟩) Lm.no
      refine ⟨[0,0], (.q 0 (.q 1 (.q 2 (.q 3 (.q 4 (.q 5 (.q 6 (.q 7 (.q 8 (.q 9 (.q 10 (.q 11 (.q 12 (.one 13 (.one 14 (.q 15 (.fin 16))))))))))))))))), by kernel_rfl, ?_⟩
      refine ⟨_, ld 0 rfl rfl, ?_⟩
      refine ⟨_, ld 0 rfl rfl, ?_⟩
      refine ⟨by omega, by omega, _, rfl, ?_⟩
      refine ⟨(lm 1).val, ldr1 1 rfl hrow.2.1, ?_⟩
      refine ⟨rfl, fun g3 => ?_⟩
      refine ⟨[.string ⟨⟨root⟩⟩], rfl, rdRow 6 rfl, rfl, by show (_ + _) * 16 ≤ _; omega, by omega, .inr ⟨1, rfl, rfl, rfl, rfl, rfl, rfl, fun A2 c2 hg2 => ?_⟩⟩
      refine ⟨by omega, by omega, _, rfl, ?_⟩
      refine ⟨rfl, rfl, 1, rfl, rfl, hrow.2.2, ?_⟩
      refine ⟨_, ld 0 rfl rfl, ?_⟩
      refine ⟨by omega, by omega, _, rfl, ?_⟩
      refine ⟨.slice A2 ((lm 1).n + 1) c2, ldr1 1 rfl (List.getElem?_set_self hrow.2.2), ?_⟩
      refine ⟨by decide, ?_⟩
      intro z hz
      obtain rfl : z = ((((lm 1).n + 1) % 2 : Nat) : Int) := hz
      refine ⟨fun hb => ?_, fun hb => ?_⟩
      · replace hb := of_decide_eq_false (Bool.not_eq_true' _ ▸ hb)
        refine ⟨_, Ent.drop (treeL g gl' (1 + 1) cl' ((ls ++ [Value.slice .none 0 0]).set 1 (Value.slice A2 ((lm 1).n + 1) c2)) (upd lm 1 ⟨A2, c2, (lm 1).n + 1, (lm 1).xs ++ [Value.string (⟨⟨root⟩⟩ : ByteArray)]⟩)) [_, _], ?_, gl', (1 + 1), cl', _, _, hM.fin (by omega) (by omega) (.inr ⟨rfl, rfl, rfl⟩) (by omega) c2 hg2, rfl⟩
        rw [(hT.vs 0 (by omega)).n, lvl_zero]; rfl
      · replace hb := of_decide_eq_true (Bool.not_eq_false' _ ▸ hb)
        have hbc := hM.before_cell (by omega) (by omega)
        have hn2 := hM.next (A := A2) (by omega) (by omega) (.inr ⟨rfl, rfl, rfl⟩) (by omega) c2 hg2
        obtain ⟨q, rfl⟩ := growA hg2 (by omega)
        intro z hz
        obtain rfl : z = (((lm 1).n - 1 : Nat) : Int) := (by rw [IntKind.wrap_i64] at hz; omega)
        clear hz
        refine ⟨by omega, by omega, _, rfl, ?_⟩
        refine ⟨_, ldr1 3 rfl hbc.1, ?_⟩
        refine ⟨[], _, Node_ok _ (hG.rh _) (before l x 1) root (by have := before_small hl 1; omega) (by omega), ?_⟩
        rintro _ _ ⟨rfl, rfl⟩
        (intro z hz; obtain rfl : z = ((1 + 1 : Nat) : Int) := (by first | (rw [IntKind.wrap_i64] at hz; omega) | (rw [IntKind.wrap_u64] at hz; omega) | omega); clear hz)
        exact ⟨rfl, (1 + 1, (1 + 1), cl', gl', _, _, _), ⟨by omega, hn2⟩, by show 5 - (1 + 1) < 5 - 1; omega, ⟨rfl, rfl, trivial⟩, Ent.drop (treeL g gl' (1 + 1) cl' ((ls ++ [Value.slice .none 0 0]).set 1 (Value.slice (some ⟨q, 0, .none⟩) ((lm 1).n + 1) c2)) (upd lm 1 ⟨some ⟨q, 0, .none⟩, c2, (lm 1).n + 1, (lm 1).xs ++ [Value.string (⟨⟨root⟩⟩ : ByteArray)]⟩)) [_, _], rfl⟩
    · have hlt : 1 < K := by omega
      refine ⟨fun hb => absurd (of_decide_eq_true hb) (by omega), fun _ => ?_⟩
      have hrow := hM.row (K' := K) (ls' := ls) (by omega) (.inl ⟨rfl, hlt, rfl⟩) Lm.no
      refine ⟨[0,0], (.q 0 (.q 1 (.q 2 (.q 3 (.q 4 (.q 5 (.q 6 (.q 7 (.q 8 (.q 9 (.q 10 (.q 11 (.q 12 (.one 13 (.one 14 (.q 15 (.fin 16))))))))))))))))), by kernel_rfl, ?_⟩
      refine ⟨_, ld 0 rfl rfl, ?_⟩
      refine ⟨_, ld 0 rfl rfl, ?_⟩
      refine ⟨by omega, by omega, _, rfl, ?_⟩
      refine ⟨(lm 1).val, ldr1 1 rfl hrow.2.1, ?_⟩
      refine ⟨rfl, fun g3 => ?_⟩
      refine ⟨[.string ⟨⟨root⟩⟩], rfl, rdRow 5 rfl, rfl, by show (_ + _) * 16 ≤ _; omega, by omega, .inr ⟨1, rfl, rfl, rfl, rfl, rfl, rfl, fun A2 c2 hg2 => ?_⟩⟩
      refine ⟨by omega, by omega, _, rfl, ?_⟩
      refine ⟨rfl, rfl, 1, rfl, rfl, hrow.2.2, ?_⟩
      refine ⟨_, ld 0 rfl rfl, ?_⟩
      refine ⟨by omega, by omega, _, rfl, ?_⟩
      refine ⟨.slice A2 ((lm 1).n + 1) c2, ldr1 1 rfl (List.getElem?_set_self hrow.2.2), ?_⟩
      refine ⟨by decide, ?_⟩
      intro z hz
      obtain rfl : z = ((((lm 1).n + 1) % 2 : Nat) : Int) := hz
      refine ⟨fun hb => ?_, fun hb => ?_⟩
      · replace hb := of_decide_eq_false (Bool.not_eq_true' _ ▸ hb)
        refine ⟨_, Ent.drop (treeL g gl K cl (ls.set 1 (Value.slice A2 ((lm 1).n + 1) c2)) (upd lm 1 ⟨A2, c2, (lm 1).n + 1, (lm 1).xs ++ [Value.string (⟨⟨root⟩⟩ : ByteArray)]⟩)) [_], ?_, gl, K, cl, _, _, hM.fin (by omega) (by omega) (.inl ⟨rfl, hlt, rfl⟩) (by omega) c2 hg2, rfl⟩
        rw [(hT.vs 0 (by omega)).n, lvl_zero]; rfl
      · replace hb := of_decide_eq_true (Bool.not_eq_false' _ ▸ hb)
        have hbc := hM.before_cell (by omega) (by omega)
        have hn2 := hM.next (A := A2) (by omega) (by omega) (.inl ⟨rfl, hlt, rfl⟩) (by omega) c2 hg2
        obtain ⟨q, rfl⟩ := growA hg2 (by omega)
        intro z hz
        obtain rfl : z = (((lm 1).n - 1 : Nat) : Int) := (by rw [IntKind.wrap_i64] at hz; omega)
        clear hz
        refine ⟨by omega, by omega, _, rfl, ?_⟩
        refine ⟨_, ldr1 3 rfl hbc.1, ?_⟩
        refine ⟨[], _, Node_ok _ (hG.rh _) (before l x 1) root (by have := before_small hl 1; omega) (by omega), ?_⟩
        rintro _ _ ⟨rfl, rfl⟩
        (intro z hz; obtain rfl : z = ((1 + 1 : Nat) : Int) := (by first | (rw [IntKind.wrap_i64] at hz; omega) | (rw [IntKind.wrap_u64] at hz; omega) | omega); clear hz)
        exact ⟨rfl, (1 + 1, K, cl, gl, _, _, _), ⟨by omega, hn2⟩, by show 5 - (1 + 1) < 5 - 1; omega, ⟨rfl, rfl, trivial⟩, Ent.drop (treeL g gl K cl (ls.set 1 (Value.slice (some ⟨q, 0, .none⟩) ((lm 1).n + 1) c2)) (upd lm 1 ⟨some ⟨q, 0, .none⟩, c2, (lm 1).n + 1, (lm 1).xs ++ [Value.string (⟨⟨root⟩⟩ : ByteArray)]⟩)) [_], rfl⟩
  · have hbl : (lm 2).n ≤ 24 := by
      rw [(hM.hi 2 (Nat.le_refl _) (by omega)).n, lvl_length]
      exact Nat.le_trans (Nat.div_le_self _ _) (by omega)
    refine ⟨_, ld 0 rfl rfl, ?_⟩
    by_cases e : 2 = K
    · subst e
      refine ⟨fun _ => ?_, fun hb => absurd rfl (of_decide_eq_false hb)⟩
      refine ⟨_, ld 0 rfl rfl, ?_⟩
      refine ⟨rfl, fun g2 => ?_⟩
      refine ⟨[.slice .none 0 0], rfl, rdRow 7 rfl, rfl, by show (_ + _) * 24 ≤ _; omega, by omega, .inr ⟨1, rfl, rfl, rfl, rfl, rfl, rfl, fun A' cl' hgl => ?_⟩⟩
      obtain ⟨gl', rfl⟩ := growA hgl (by omega)
      refine ⟨rfl, rfl, 0, rfl, rfl, Nat.le_of_ble_eq_true rfl, ?_⟩
      have hrow := hM.row (K' := (2 + 1)) (ls' := (ls ++ [Value.slice .none 0 0])) (by omega) (.inr ⟨rfl, rfl, rfl⟩) Lm.no
      refine ⟨[0,0], (.q 0 (.q 1 (.q 2 (.q 3 (.q 4 (.q 5 (.q 6 (.q 7 (.q 8 (.q 9 (.q 10 (.q 11 (.q 12 (.one 13 (.one 14 (.q 15 (.fin 16))))))))))))))))), by kernel_rfl, ?_⟩
      refine ⟨_, ld 0 rfl rfl, ?_⟩
      refine ⟨_, ld 0 rfl rfl, ?_⟩
      refine ⟨by omega, by omega, _, rfl, ?_⟩
      refine ⟨(lm 2).val, ldr1 1 rfl hrow.2.1, ?_⟩
      refine ⟨rfl, fun g3 => ?_⟩
      refine ⟨[.string ⟨⟨root⟩⟩], rfl, rdRow 6 rfl, rfl, by show (_ + _) * 16 ≤ _; omega, by omega, .inr ⟨2, rfl, rfl, rfl, rfl, rfl, rfl, fun A2 c2 hg2 => ?_⟩⟩
      refine ⟨by omega, by omega, _, rfl, ?_⟩
      refine ⟨rfl, rfl, 1, rfl, rfl, hrow.2.2, ?_⟩
      refine ⟨_, ld 0 rfl rfl, ?_⟩
      refine ⟨by omega, by omega, _, rfl, ?_⟩
      refine ⟨.slice A2 ((lm 2).n + 1) c2, ldr1 1 rfl (List.getElem?_set_self hrow.2.2), ?_⟩
      refine ⟨by decide, ?_⟩
      intro z hz
      obtain rfl : z = ((((lm 2).n + 1) % 2 : Nat) : Int) := hz
      refine ⟨fun hb => ?_, fun hb => ?_⟩
      · replace hb := of_decide_eq_false (Bool.not_eq_true' _ ▸ hb)
        refine ⟨_, Ent.drop (treeL g gl' (2 + 1) cl' ((ls ++ [Value.slice .none 0 0]).set 2 (Value.slice A2 ((lm 2).n + 1) c2)) (upd lm 2 ⟨A2, c2, (lm 2).n + 1, (lm 2).xs ++ [Value.string (⟨⟨root⟩⟩ : ByteArray)]⟩)) [_, _], ?_, gl', (2 + 1), cl', _, _, hM.fin (by omega) (by omega) (.inr ⟨rfl, rfl, rfl⟩) (by omega) c2 hg2, rfl⟩
        rw [(hT.vs 0 (by omega)).n, lvl_zero]; rfl
      · replace hb := of_decide_eq_true (Bool.not_eq_false' _ ▸ hb)
        have hbc := hM.before_cell (by omega) (by omega)
        have hn2 := hM.next (A := A2) (by omega) (by omega) (.inr ⟨rfl, rfl, rfl⟩) (by omega) c2 hg2
        obtain ⟨q, rfl⟩ := growA hg2 (by omega)
        intro z hz
        obtain rfl : z = (((lm 2).n - 1 : Nat) : Int) := (by rw [IntKind.wrap_i64] at hz; omega)
        clear hz
        refine ⟨by omega, by omega, _, rfl, ?_⟩
        refine ⟨_, ldr1 4 rfl hbc.1, ?_⟩
        refine ⟨[], _, Node_ok _ (hG.rh _) (before l x 2) root (by have := before_small hl 2; omega) (by omega), ?_⟩
        rintro _ _ ⟨rfl, rfl⟩
        (intro z hz; obtain rfl : z = ((2 + 1 : Nat) : Int) := (by first | (rw [IntKind.wrap_i64] at hz; omega) | (rw [IntKind.wrap_u64] at hz; omega) | omega); clear hz)
        exact ⟨rfl, (2 + 1, (2 + 1), cl', gl', _, _, _), ⟨by omega, hn2⟩, by show 5 - (2 + 1) < 5 - 2; omega, ⟨rfl, rfl, trivial⟩, Ent.drop (treeL g gl' (2 + 1) cl' ((ls ++ [Value.slice .none 0 0]).set 2 (Value.slice (some ⟨q, 0, .none⟩) ((lm 2).n + 1) c2)) (upd lm 2 ⟨some ⟨q, 0, .none⟩, c2, (lm 2).n + 1, (lm 2).xs ++ [Value.string (⟨⟨root⟩⟩ : ByteArray)]⟩)) [_, _], rfl⟩
    · have hlt : 2 < K := by omega
      refine ⟨fun hb => absurd (of_decide_eq_true hb) (by omega), fun _ => ?_⟩
      have hrow := hM.row (K' := K) (ls' := ls) (by omega) (.inl ⟨rfl, hlt, rfl⟩) Lm.no
      refine ⟨[0,0], (.q 0 (.q 1 (.q 2 (.q 3 (.q 4 (.q 5 (.q 6 (.q 7 (.q 8 (.q 9 (.q 10 (.q 11 (.q 12 (.one 13 (.one 14 (.q 15 (.fin 16))))))))))))))))), by kernel_rfl, ?_⟩
      refine ⟨_, ld 0 rfl rfl, ?_⟩
      refine ⟨_, ld 0 rfl rfl, ?_⟩
      refine ⟨by omega, by omega, _, rfl, ?_⟩
      refine ⟨(lm 2).val, ldr1 1 rfl hrow.2.1, ?_⟩
      refine ⟨rfl, fun g3 => ?_⟩
      refine ⟨[.string ⟨⟨root⟩⟩], rfl, rdRow 5 rfl, rfl, by show (_ + _) * 16 ≤ _; omega, by omega, .inr ⟨2, rfl, rfl, rfl, rfl, rfl, rfl, fun A2 c2 hg2 => ?_⟩⟩
      refine ⟨by omega, by omega, _, rfl, ?_⟩
      refine ⟨rfl, rfl, 1, rfl, rfl, hrow.2.2, ?_⟩
      refine ⟨_, ld 0 rfl rfl, ?_⟩
      refine ⟨by omega, by omega, _, rfl, ?_⟩
      refine ⟨.slice A2 ((lm 2).n + 1) c2, ldr1 1 rfl (List.getElem?_set_self hrow.2.2), ?_⟩
      refine ⟨by decide, ?_⟩
      intro z hz
      obtain rfl : z = ((((lm 2).n + 1) % 2 : Nat) : Int) := hz
      refine ⟨fun hb => ?_, fun hb => ?_⟩
      · replace hb := of_decide_eq_false (Bool.not_eq_true' _ ▸ hb)
        refine ⟨_, Ent.drop (treeL g gl K cl (ls.set 2 (Value.slice A2 ((lm 2).n + 1) c2)) (upd lm 2 ⟨A2, c2, (lm 2).n + 1, (lm 2).xs ++ [Value.string (⟨⟨root⟩⟩ : ByteArray)]⟩)) [_], ?_, gl, K, cl, _, _, hM.fin (by omega) (by omega) (.inl ⟨rfl, hlt, rfl⟩) (by omega) c2 hg2, rfl⟩
        rw [(hT.vs 0 (by omega)).n, lvl_zero]; rfl
      · replace hb := of_decide_eq_true (Bool.not_eq_false' _ ▸ hb)
        have hbc := hM.before_cell (by omega) (by omega)
        have hn2 := hM.next (A := A2) (by omega) (by omega) (.inl ⟨rfl, hlt, rfl⟩) (by omega) c2 hg2
        obtain ⟨q, rfl⟩ := growA hg2 (by omega)
        intro z hz
        obtain rfl : z = (((lm 2).n - 1 : Nat) : Int) := (by rw [IntKind.wrap_i64] at hz; omega)
        clear hz
        refine ⟨by omega, by omega, _, rfl, ?_⟩
        refine ⟨_, ldr1 4 rfl hbc.1, ?_⟩
        refine ⟨[], _, Node_ok _ (hG.rh _) (before l x 2) root (by have := before_small hl 2; omega) (by omega), ?_⟩
        rintro _ _ ⟨rfl, rfl⟩
        (intro z hz; obtain rfl : z = ((2 + 1 : Nat) : Int) := (by first | (rw [IntKind.wrap_i64] at hz; omega) | (rw [IntKind.wrap_u64] at hz; omega) | omega); clear hz)
        exact ⟨rfl, (2 + 1, K, cl, gl, _, _, _), ⟨by omega, hn2⟩, by show 5 - (2 + 1) < 5 - 2; omega, ⟨rfl, rfl, trivial⟩, Ent.drop (treeL g gl K cl (ls.set 2 (Value.slice (some ⟨q, 0, .none⟩) ((lm 2).n + 1) c2)) (upd lm 2 ⟨some ⟨q, 0, .none⟩, c2, (lm 2).n + 1, (lm 2).xs ++ [Value.string (⟨⟨root⟩⟩ : ByteArray)]⟩)) [_], rfl⟩
  · have hbl : (lm 3).n ≤ 24 := by
      rw [(hM.hi 3 (Nat.le_refl _) (by omega)).n, lvl_length]
      exact Nat.le_trans (Nat.div_le_self _ _) (by omega)
    refine ⟨_, ld 0 rfl rfl, ?_⟩
    by_cases e : 3 = K
    · subst e
      refine ⟨fun _ => ?_, fun hb => absurd rfl (of_decide_eq_false hb)⟩
      refine ⟨_, ld 0 rfl rfl, ?_⟩
      refine ⟨rfl, fun g2 => ?_⟩
      refine ⟨[.slice .none 0 0], rfl, rdRow 7 rfl, rfl, by show (_ + _) * 24 ≤ _; omega, by omega, .inr ⟨1, rfl, rfl, rfl, rfl, rfl, rfl, fun A' cl' hgl => ?_⟩⟩
      obtain ⟨gl', rfl⟩ := growA hgl (by omega)
      refine ⟨rfl, rfl, 0, rfl, rfl, Nat.le_of_ble_eq_true rfl, ?_⟩
      have hrow := hM.row (K' := (3 + 1)) (ls' := (ls ++ [Value.slice .none 0 0])) (by omega) (.inr ⟨rfl, rfl, rfl⟩) Lm.no
      refine ⟨[0,0], (.q 0 (.q 1 (.q 2 (.q 3 (.q 4 (.q 5 (.q 6 (.q 7 (.q 8 (.q 9 (.q 10 (.q 11 (.q 12 (.one 13 (.one 14 (.q 15 (.fin 16))))))))))))))))), by kernel_rfl, ?_⟩
      refine ⟨_, ld 0 rfl rfl, ?_⟩
      refine ⟨_, ld 0 rfl rfl, ?_⟩
      refine ⟨by omega, by omega, _, rfl, ?_⟩
      refine ⟨(lm 3).val, ldr1 1 rfl hrow.2.1, ?_⟩
      refine ⟨rfl, fun g3 => ?_⟩
      refine ⟨[.string ⟨⟨root⟩⟩], rfl, rdRow 6 rfl, rfl, by show (_ + _) * 16 ≤ _; omega, by omega, .inr ⟨3, rfl, rfl, rfl, rfl, rfl, rfl, fun A2 c2 hg2 => ?_⟩⟩
      refine ⟨by omega, by omega, _, rfl, ?_⟩
      refine ⟨rfl, rfl, 1, rfl, rfl, hrow.2.2, ?_⟩
      refine ⟨_, ld 0 rfl rfl, ?_⟩
      refine ⟨by omega, by omega, _, rfl, ?_⟩
      refine ⟨.slice A2 ((lm 3).n + 1) c2, ldr1 1 rfl (List.getElem?_set_self hrow.2.2), ?_⟩
      refine ⟨by decide, ?_⟩
      intro z hz
      obtain rfl : z = ((((lm 3).n + 1) % 2 : Nat) : Int) := hz
      refine ⟨fun hb => ?_, fun hb => ?_⟩
      · replace hb := of_decide_eq_false (Bool.not_eq_true' _ ▸ hb)
        refine ⟨_, Ent.drop (treeL g gl' (3 + 1) cl' ((ls ++ [Value.slice .none 0 0]).set 3 (Value.slice A2 ((lm 3).n + 1) c2)) (upd lm 3 ⟨A2, c2, (lm 3).n + 1, (lm 3).xs ++ [Value.string (⟨⟨root⟩⟩ : ByteArray)]⟩)) [_, _], ?_, gl', (3 + 1), cl', _, _, hM.fin (by omega) (by omega) (.inr ⟨rfl, rfl, rfl⟩) (by omega) c2 hg2, rfl⟩
        rw [(hT.vs 0 (by omega)).n, lvl_zero]; rfl
      · replace hb := of_decide_eq_true (Bool.not_eq_false' _ ▸ hb)
        have hbc := hM.before_cell (by omega) (by omega)
        have hn2 := hM.next (A := A2) (by omega) (by omega) (.inr ⟨rfl, rfl, rfl⟩) (by omega) c2 hg2
        obtain ⟨q, rfl⟩ := growA hg2 (by omega)
        intro z hz
        obtain rfl : z = (((lm 3).n - 1 : Nat) : Int) := (by rw [IntKind.wrap_i64] at hz; omega)
        clear hz
        refine ⟨by omega, by omega, _, rfl, ?_⟩
        refine ⟨_, ldr1 5 rfl hbc.1, ?_⟩
        refine ⟨[], _, Node_ok _ (hG.rh _) (before l x 3) root (by have := before_small hl 3; omega) (by omega), ?_⟩
        rintro _ _ ⟨rfl, rfl⟩
        (intro z hz; obtain rfl : z = ((3 + 1 : Nat) : Int) := (by first | (rw [IntKind.wrap_i64] at hz; omega) | (rw [IntKind.wrap_u64] at hz; omega) | omega); clear hz)
        exact ⟨rfl, (3 + 1, (3 + 1), cl', gl', _, _, _), ⟨by omega, hn2⟩, by show 5 - (3 + 1) < 5 - 3; omega, ⟨rfl, rfl, trivial⟩, Ent.drop (treeL g gl' (3 + 1) cl' ((ls ++ [Value.slice .none 0 0]).set 3 (Value.slice (some ⟨q, 0, .none⟩) ((lm 3).n + 1) c2)) (upd lm 3 ⟨some ⟨q, 0, .none⟩, c2, (lm 3).n + 1, (lm 3).xs ++ [Value.string (⟨⟨root⟩⟩ : ByteArray)]⟩)) [_, _], rfl⟩
    · have hlt : 3 < K := by omega
      refine ⟨fun hb => absurd (of_decide_eq_true hb) (by omega), fun _ => ?_⟩
      have hrow := hM.row (K' := K) (ls' := ls) (by omega) (.inl ⟨rfl, hlt, rfl⟩) Lm.no
      refine ⟨[0,0], (.q 0 (.q 1 (.q 2 (.q 3 (.q 4 (.q 5 (.q 6 (.q 7 (.q 8 (.q 9 (.q 10 (.q 11 (.q 12 (.one 13 (.one 14 (.q 15 (.fin 16))))))))))))))))), by kernel_rfl, ?_⟩
      refine ⟨_, ld 0 rfl rfl, ?_⟩
      refine ⟨_, ld 0 rfl rfl, ?_⟩
      refine ⟨by omega, by omega, _, rfl, ?_⟩
      refine ⟨(lm 3).val, ldr1 1 rfl hrow.2.1, ?_⟩
      refine ⟨rfl, fun g3 => ?_⟩
      refine ⟨[.string ⟨⟨root⟩⟩], rfl, rdRow 5 rfl, rfl, by show (_ + _) * 16 ≤ _; omega, by omega, .inr ⟨3, rfl, rfl, rfl, rfl, rfl, rfl, fun A2 c2 hg2 => ?_⟩⟩
      refine ⟨by omega, by omega, _, rfl, ?_⟩
      refine ⟨rfl, rfl, 1, rfl, rfl, hrow.2.2, ?_⟩
      refine ⟨_, ld 0 rfl rfl, ?_⟩
      refine ⟨by omega, by omega, _, rfl, ?_⟩
      refine ⟨.slice A2 ((lm 3).n + 1) c2, ldr1 1 rfl (List.getElem?_set_self hrow.2.2), ?_⟩
      refine ⟨by decide, ?_⟩
      intro z hz
      obtain rfl : z = ((((lm 3).n + 1) % 2 : Nat) : Int) := hz
      refine ⟨fun hb => ?_, fun hb => ?_⟩
      · replace hb := of_decide_eq_false (Bool.not_eq_true' _ ▸ hb)
        refine ⟨_, Ent.drop (treeL g gl K cl (ls.set 3 (Value.slice A2 ((lm 3).n + 1) c2)) (upd lm 3 ⟨A2, c2, (lm 3).n + 1, (lm 3).xs ++ [Value.string (⟨⟨root⟩⟩ : ByteArray)]⟩)) [_], ?_, gl, K, cl, _, _, hM.fin (by omega) (by omega) (.inl ⟨rfl, hlt, rfl⟩) (by omega) c2 hg2, rfl⟩
        rw [(hT.vs 0 (by omega)).n, lvl_zero]; rfl
      · replace hb := of_decide_eq_true (Bool.not_eq_false' _ ▸ hb)
        have hbc := hM.before_cell (by omega) (by omega)
        have hn2 := hM.next (A := A2) (by omega) (by omega) (.inl ⟨rfl, hlt, rfl⟩) (by omega) c2 hg2
        obtain ⟨q, rfl⟩ := growA hg2 (by omega)
        intro z hz
        obtain rfl : z = (((lm 3).n - 1 : Nat) : Int) := (by rw [IntKind.wrap_i64] at hz; omega)
        clear hz
        refine ⟨by omega, by omega, _, rfl, ?_⟩
        refine ⟨_, ldr1 5 rfl hbc.1, ?_⟩
        refine ⟨[], _, Node_ok _ (hG.rh _) (before l x 3) root (by have := before_small hl 3; omega) (by omega), ?_⟩
        rintro _ _ ⟨rfl, rfl⟩
        (intro z hz; obtain rfl : z = ((3 + 1 : Nat) : Int) := (by first | (rw [IntKind.wrap_i64] at hz; omega) | (rw [IntKind.wrap_u64] at hz; omega) | omega); clear hz)
        exact ⟨rfl, (3 + 1, K, cl, gl, _, _, _), ⟨by omega, hn2⟩, by show 5 - (3 + 1) < 5 - 3; omega, ⟨rfl, rfl, trivial⟩, Ent.drop (treeL g gl K cl (ls.set 3 (Value.slice (some ⟨q, 0, .none⟩) ((lm 3).n + 1) c2)) (upd lm 3 ⟨some ⟨q, 0, .none⟩, c2, (lm 3).n + 1, (lm 3).xs ++ [Value.string (⟨⟨root⟩⟩ : ByteArray)]⟩)) [_], rfl⟩
  · have hbl : (lm 4).n ≤ 24 := by
      rw [(hM.hi 4 (Nat.le_refl _) (by omega)).n, lvl_length]
      exact Nat.le_trans (Nat.div_le_self _ _) (by omega)
    refine ⟨_, ld 0 rfl rfl, ?_⟩
    by_cases e : 4 = K
    · subst e
      refine ⟨fun _ => ?_, fun hb => absurd rfl (of_decide_eq_false hb)⟩
      refine ⟨_, ld 0 rfl rfl, ?_⟩
      refine ⟨rfl, fun g2 => ?_⟩
      refine ⟨[.slice .none 0 0], rfl, rdRow 7 rfl, rfl, by show (_ + _) * 24 ≤ _; omega, by omega, .inr ⟨1, rfl, rfl, rfl, rfl, rfl, rfl, fun A' cl' hgl => ?_⟩⟩
      obtain ⟨gl', rfl⟩ := growA hgl (by omega)
      refine ⟨rfl, rfl, 0, rfl, rfl, Nat.le_of_ble_eq_true rfl, ?_⟩
      have hrow := hM.row (K' := (4 + 1)) (ls' := (ls ++ [Value.slice .none 0 0])) (by omega) (.inr ⟨rfl, rfl, rfl⟩) Lm.no
      refine ⟨[0,0], (.q 0 (.q 1 (.q 2 (.q 3 (.q 4 (.q 5 (.q 6 (.q 7 (.q 8 (.q 9 (.q 10 (.q 11 (.q 12 (.one 13 (.one 14 (.q 15 (.fin 16))))))))))))))))), by kernel_rfl, ?_⟩
      refine ⟨_, ld 0 rfl rfl, ?_⟩
      refine ⟨_, ld 0 rfl rfl, ?_⟩
      refine ⟨by omega, by omega, _, rfl, ?_⟩
      refine ⟨(lm 4).val, ldr1 1 rfl hrow.2.1, ?_⟩
      refine ⟨rfl, fun g3 => ?_⟩
      refine ⟨[.string ⟨⟨root⟩⟩], rfl, rdRow 6 rfl, rfl, by show (_ + _) * 16 ≤ _; omega, by omega, .inr ⟨4, rfl, rfl, rfl, rfl, rfl, rfl, fun A2 c2 hg2 => ?_⟩⟩
      refine ⟨by omega, by omega, _, rfl, ?_⟩
      refine ⟨rfl, rfl, 1, rfl, rfl, hrow.2.2, ?_⟩
      refine ⟨_, ld 0 rfl rfl, ?_⟩
      refine ⟨by omega, by omega, _, rfl, ?_⟩
      refine ⟨.slice A2 ((lm 4).n + 1) c2, ldr1 1 rfl (List.getElem?_set_self hrow.2.2), ?_⟩
      refine ⟨by decide, ?_⟩
      intro z hz
      obtain rfl : z = ((((lm 4).n + 1) % 2 : Nat) : Int) := hz
      refine ⟨fun hb => ?_, fun hb => ?_⟩
      · replace hb := of_decide_eq_false (Bool.not_eq_true' _ ▸ hb)
        refine ⟨_, Ent.drop (treeL g gl' (4 + 1) cl' ((ls ++ [Value.slice .none 0 0]).set 4 (Value.slice A2 ((lm 4).n + 1) c2)) (upd lm 4 ⟨A2, c2, (lm 4).n + 1, (lm 4).xs ++ [Value.string (⟨⟨root⟩⟩ : ByteArray)]⟩)) [_, _], ?_, gl', (4 + 1), cl', _, _, hM.fin (by omega) (by omega) (.inr ⟨rfl, rfl, rfl⟩) (by omega) c2 hg2, rfl⟩
        rw [(hT.vs 0 (by omega)).n, lvl_zero]; rfl
      · replace hb := of_decide_eq_true (Bool.not_eq_false' _ ▸ hb)
        have h32 := Nat.le_of_dvd (by omega) (hM.next (A := A2) (by omega) (by omega) (.inr ⟨rfl, rfl, rfl⟩) (by omega) c2 hg2).dv
        have : l.length + 1 ≤ 25 := hl25
        exact absurd h32 (by omega)
    · have hlt : 4 < K := by omega
      refine ⟨fun hb => absurd (of_decide_eq_true hb) (by omega), fun _ => ?_⟩
      have hrow := hM.row (K' := K) (ls' := ls) (by omega) (.inl ⟨rfl, hlt, rfl⟩) Lm.no
      refine ⟨[0,0], (.q 0 (.q 1 (.q 2 (.q 3 (.q 4 (.q 5 (.q 6 (.q 7 (.q 8 (.q 9 (.q 10 (.q 11 (.q 12 (.one 13 (.one 14 (.q 15 (.fin 16))))))))))))))))), by kernel_rfl, ?_⟩
      refine ⟨_, ld 0 rfl rfl, ?_⟩
      refine ⟨_, ld 0 rfl rfl, ?_⟩
      refine ⟨by omega, by omega, _, rfl, ?_⟩
      refine ⟨(lm 4).val, ldr1 1 rfl hrow.2.1, ?_⟩
      refine ⟨rfl, fun g3 => ?_⟩
      refine ⟨[.string ⟨⟨root⟩⟩], rfl, rdRow 5 rfl, rfl, by show (_ + _) * 16 ≤ _; omega, by omega, .inr ⟨4, rfl, rfl, rfl, rfl, rfl, rfl, fun A2 c2 hg2 => ?_⟩⟩
      refine ⟨by omega, by omega, _, rfl, ?_⟩
      refine ⟨rfl, rfl, 1, rfl, rfl, hrow.2.2, ?_⟩
      refine ⟨_, ld 0 rfl rfl, ?_⟩
      refine ⟨by omega, by omega, _, rfl, ?_⟩
      refine ⟨.slice A2 ((lm 4).n + 1) c2, ldr1 1 rfl (List.getElem?_set_self hrow.2.2), ?_⟩
      refine ⟨by decide, ?_⟩
      intro z hz
      obtain rfl : z = ((((lm 4).n + 1) % 2 : Nat) : Int) := hz
      refine ⟨fun hb => ?_, fun hb => ?_⟩
      · replace hb := of_decide_eq_false (Bool.not_eq_true' _ ▸ hb)
        refine ⟨_, Ent.drop (treeL g gl K cl (ls.set 4 (Value.slice A2 ((lm 4).n + 1) c2)) (upd lm 4 ⟨A2, c2, (lm 4).n + 1, (lm 4).xs ++ [Value.string (⟨⟨root⟩⟩ : ByteArray)]⟩)) [_], ?_, gl, K, cl, _, _, hM.fin (by omega) (by omega) (.inl ⟨rfl, hlt, rfl⟩) (by omega) c2 hg2, rfl⟩
        rw [(hT.vs 0 (by omega)).n, lvl_zero]; rfl
      · replace hb := of_decide_eq_true (Bool.not_eq_false' _ ▸ hb)
        have h32 := Nat.le_of_dvd (by omega) (hM.next (A := A2) (by omega) (by omega) (.inl ⟨rfl, hlt, rfl⟩) (by omega) c2 hg2).dv
        have : l.length + 1 ≤ 25 := hl25
        exact absurd h32 (by omega)

theorem Add_bad (R : Rd) (g : Nat) (x : Str) (hx : x.length ≠ 32) :
    Fn Tryd.prog 46 [.pointer (some ⟨g, 0, .none⟩), .string ⟨⟨x⟩⟩] [] R (fun v h => v = .tuple ⟨[.int .i64 0, .int .i64 1]⟩ ∧ h = []) := by
  refine fn_of_vc mixed tabOk Tryd.func46 rfl (by kernel_rfl) (Nat.le_of_ble_eq_true rfl) ?_
  refine ⟨[], _, isSum_ok _ x, ?_⟩
  rintro _ _ ⟨rfl, rfl⟩
  repeat (first | (refine ⟨fun h => ?_, fun h => ?_⟩; rotate_left 1; (focus (exfalso; (first | (with_reducible (cases h; done)) | (revert h; simp; done) | (revert h; simp; omega) | (revert h; simp [*]; done)))); clear h) | (refine ⟨fun h => ?_, fun h => ?_⟩; (focus (exfalso; (first | (with_reducible (cases h; done)) | (revert h; simp; done) | (revert h; simp; omega) | (revert h; simp [*]; done)))); clear h))
  exact ⟨_, Ent.refl _, rfl, rfl⟩

end Go.Proofs.YtgbdfpfiolbhlaaDoor
