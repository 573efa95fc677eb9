/-
  The law SnapshotJoin.
-/
import Derived.Test.YtoddabjacjkjbaaDoorSas
import Derived.Test.YtoddabjacjkjbaaDoorSam
namespace Go.Proofs.YtoddabjacjkjbaaDoor
open Go Go.RowKit
set_option linter.unusedVariables false
set_option linter.unusedSimpArgs false

theorem encC_le {C : Lg} (hC : GoodC C) (hn : countC C ≤ 4096) : (encL (flatC C)).length ≤ 10 + countC C * 202 := by
  have := encU_le hC hn (w := 12) (k := 0) (Nat.le_refl _)
  rw [encU_all] at this
  exact this
theorem mergeR_small {C D : Lg} (h : countC C + countC D ≤ 4096) : mergeR C D = if agreesB C D = true then (mergeC C D, 0) else (C, 13) := by
  have := count_le_merge C D
  unfold mergeR
  rw [if_neg (show ¬ 4096 < countC (mergeC C D) by omega)]
theorem mergeC_comm {C D : Lg} (hC : GoodC C) (h : agreesB C D = true) : mergeC D C = mergeC C D := by
  funext w
  exact (mrgL_comm ((agreesB_iff hC).1 h w)).symm
theorem agreesB_comm {C D : Lg} : agreesB D C = agreesB C D := by
  unfold agreesB
  congr 1
  funext w
  exact agreeB_comm
theorem mergeC_assoc (C D E : Lg) : mergeC (mergeC C D) E = mergeC C (mergeC D E) := by
  funext w
  exact mrgL_assoc _ _ _
theorem agreesB_left {C D E : Lg} (hC : GoodC C) (hD : GoodC D) (h : agreesB C D = true) (h2 : agreesB (mergeC C D) E = true) : agreesB D E = true := by
  have hg := GoodC.merge hC hD ((agreesB_iff hC).1 h)
  exact (agreesB_iff hD).2 fun w => agree_left ((agreesB_iff hC).1 h w) ((agreesB_iff hg).1 h2 w)
theorem agreesB_both {C D E : Lg} (hC : GoodC C) (hD : GoodC D) (h : agreesB C D = true) (h2 : agreesB D E = true) : agreesB (mergeC C D) E = agreesB C (mergeC D E) := by
  have hg := GoodC.merge hC hD ((agreesB_iff hC).1 h)
  rw [Bool.eq_iff_iff, agreesB_iff hg, agreesB_iff hC]
  constructor
  · intro h3 w
    have := h3 w
    rwa [show mergeC C D w = mrgL (C w) (D w) from rfl, agree_both ((agreesB_iff hC).1 h w) ((agreesB_iff hD).1 h2 w)] at this
  · intro h3 w
    rw [show mergeC C D w = mrgL (C w) (D w) from rfl, agree_both ((agreesB_iff hC).1 h w) ((agreesB_iff hD).1 h2 w)]
    exact h3 w

structure BL where
  g : Nat
  r : Nat
  st : List WR
  c : Nat
def BL.v (b : BL) : Value := .pointer (some ⟨b.g, 0, .none⟩)
structure BL.Is (b : BL) (C : Lg) : Prop where
  ok : LogOk b.st b.c
  ch : ∀ w, chainOf b.st w = C w
abbrev BL.blk (b : BL) : HA := .blk b.g 161 [.map (some b.r)]
abbrev BL.m (b : BL) : HA := logM b.r b.st b.c
abbrev BL.rows (b : BL) : HA := .rows (rowsOf b.st)

abbrev BL.h (b : BL) : Hp := [b.blk, b.m, b.rows]
def arr (bs : List BL) : List Value := bs.map BL.v ++ repl [.pointer none] (7 - bs.length)
def pick3 (x y z : List SOp) (i : Nat) : List SOp := if i % 3 = 0 then x else if i % 3 = 1 then y else z

theorem is_snoc {P : Nat → BL → Prop} {bs : List BL} {b : BL} (h : ∀ (i : Nat) (b : BL), bs[i]? = some b → P i b) (hb : P bs.length b) : ∀ (i : Nat) (c : BL), (bs ++ [b])[i]? = some c → P i c := fun i c hc => by
  rcases Nat.lt_trichotomy i bs.length with hi | rfl | hi
  · rw [List.getElem?_append_left hi] at hc
    exact h i c hc
  · rw [List.getElem?_append_right (Nat.le_refl _), Nat.sub_self] at hc
    cases hc
    exact hb
  · rw [List.getElem?_eq_none (by rw [List.length_append, List.length_singleton]; omega)] at hc
    cases hc

set_option maxRecDepth 100000 in
set_option maxHeartbeats 8000000 in
theorem SnapshotJoin_law (R : Rd) (hG : ShaG R) (v0 v1 v2 v3 : Value) (s0 : SeenV R (.sl 15 OpShp) v0) (s1 : SeenV R (.sl 15 OpShp) v1) (s2 : SeenV R (.sl 15 OpShp) v2) (s3 : SeenV R (.sl 15 OpShp) v3) :
    Fn Tryd.prog 6 [v0, v1, v2, v3] [] R (fun v _ => v = .bool true) := by
  have hML := maxLen_eq
  obtain ⟨a, Aa, ca, hoka, rfl, hsa⟩ := s0.sops
  obtain ⟨x, Ax, cx, hokx, rfl, hsx⟩ := s1.sops
  obtain ⟨y, Ay, cy, hoky, rfl, hsy⟩ := s2.sops
  obtain ⟨z, Az, cz, hokz, rfl, hsz⟩ := s3.sops
  refine fn_of_vc mixed tabOk Tryd.func6 rfl (by kernel_rfl) (Nat.le_of_ble_eq_true rfl) ?_
  refine ⟨[], _, awake26_ok _ (hG.rh _), ?_⟩
  rintro _ _ ⟨rfl, rfl⟩
  repeat (first | (refine ⟨fun h => ?_, fun h => ?_⟩; rotate_left 1; (focus (exfalso; (first | (with_reducible (cases h; done)) | (revert h; simp; done) | (revert h; simp; omega) | (revert h; simp [*]; done)))); clear h) | (refine ⟨fun h => ?_, fun h => ?_⟩; (focus (exfalso; (first | (with_reducible (cases h; done)) | (revert h; simp; done) | (revert h; simp; omega) | (revert h; simp [*]; done)))); clear h))
  by_cases h1 : (15 : Int) < a.length
  · repeat (first | (refine ⟨fun h => ?_, fun h => ?_⟩; rotate_left 1; (focus (exfalso; (first | (with_reducible (cases h; done)) | (revert h; simp; done) | (revert h; simp; omega) | (revert h; simp [*]; done)))); clear h) | (refine ⟨fun h => ?_, fun h => ?_⟩; (focus (exfalso; (first | (with_reducible (cases h; done)) | (revert h; simp; done) | (revert h; simp; omega) | (revert h; simp [*]; done)))); clear h))
    exact ⟨_, Ent.nil _, rfl⟩
  repeat (first | (refine ⟨fun h => ?_, fun h => ?_⟩; rotate_left 1; (focus (exfalso; (first | (with_reducible (cases h; done)) | (revert h; simp; done) | (revert h; simp; omega) | (revert h; simp [*]; done)))); clear h) | (refine ⟨fun h => ?_, fun h => ?_⟩; (focus (exfalso; (first | (with_reducible (cases h; done)) | (revert h; simp; done) | (revert h; simp; omega) | (revert h; simp [*]; done)))); clear h))
  by_cases h2 : (15 : Int) < x.length
  · repeat (first | (refine ⟨fun h => ?_, fun h => ?_⟩; rotate_left 1; (focus (exfalso; (first | (with_reducible (cases h; done)) | (revert h; simp; done) | (revert h; simp; omega) | (revert h; simp [*]; done)))); clear h) | (refine ⟨fun h => ?_, fun h => ?_⟩; (focus (exfalso; (first | (with_reducible (cases h; done)) | (revert h; simp; done) | (revert h; simp; omega) | (revert h; simp [*]; done)))); clear h))
    exact ⟨_, Ent.nil _, rfl⟩
  repeat (first | (refine ⟨fun h => ?_, fun h => ?_⟩; rotate_left 1; (focus (exfalso; (first | (with_reducible (cases h; done)) | (revert h; simp; done) | (revert h; simp; omega) | (revert h; simp [*]; done)))); clear h) | (refine ⟨fun h => ?_, fun h => ?_⟩; (focus (exfalso; (first | (with_reducible (cases h; done)) | (revert h; simp; done) | (revert h; simp; omega) | (revert h; simp [*]; done)))); clear h))
  by_cases h3 : (15 : Int) < y.length
  · repeat (first | (refine ⟨fun h => ?_, fun h => ?_⟩; rotate_left 1; (focus (exfalso; (first | (with_reducible (cases h; done)) | (revert h; simp; done) | (revert h; simp; omega) | (revert h; simp [*]; done)))); clear h) | (refine ⟨fun h => ?_, fun h => ?_⟩; (focus (exfalso; (first | (with_reducible (cases h; done)) | (revert h; simp; done) | (revert h; simp; omega) | (revert h; simp [*]; done)))); clear h))
    exact ⟨_, Ent.nil _, rfl⟩
  repeat (first | (refine ⟨fun h => ?_, fun h => ?_⟩; rotate_left 1; (focus (exfalso; (first | (with_reducible (cases h; done)) | (revert h; simp; done) | (revert h; simp; omega) | (revert h; simp [*]; done)))); clear h) | (refine ⟨fun h => ?_, fun h => ?_⟩; (focus (exfalso; (first | (with_reducible (cases h; done)) | (revert h; simp; done) | (revert h; simp; omega) | (revert h; simp [*]; done)))); clear h))
  by_cases h4 : (15 : Int) < z.length
  · repeat (first | (refine ⟨fun h => ?_, fun h => ?_⟩; rotate_left 1; (focus (exfalso; (first | (with_reducible (cases h; done)) | (revert h; simp; done) | (revert h; simp; omega) | (revert h; simp [*]; done)))); clear h) | (refine ⟨fun h => ?_, fun h => ?_⟩; (focus (exfalso; (first | (with_reducible (cases h; done)) | (revert h; simp; done) | (revert h; simp; omega) | (revert h; simp [*]; done)))); clear h))
    exact ⟨_, Ent.nil _, rfl⟩
  repeat (first | (refine ⟨fun h => ?_, fun h => ?_⟩; rotate_left 1; (focus (exfalso; (first | (with_reducible (cases h; done)) | (revert h; simp; done) | (revert h; simp; omega) | (revert h; simp [*]; done)))); clear h) | (refine ⟨fun h => ?_, fun h => ?_⟩; (focus (exfalso; (first | (with_reducible (cases h; done)) | (revert h; simp; done) | (revert h; simp; omega) | (revert h; simp [*]; done)))); clear h))
  intro g9
  (first | refine ⟨rfl, rfl, 0, rfl, rfl, Nat.le_of_ble_eq_true rfl, ?_⟩ | refine ⟨rfl, rfl, 1, rfl, rfl, Nat.le_of_ble_eq_true rfl, ?_⟩ | refine ⟨rfl, rfl, 2, rfl, rfl, Nat.le_of_ble_eq_true rfl, ?_⟩ | refine ⟨rfl, rfl, 3, rfl, rfl, Nat.le_of_ble_eq_true rfl, ?_⟩ | refine ⟨rfl, rfl, 4, rfl, rfl, Nat.le_of_ble_eq_true rfl, ?_⟩ | refine ⟨rfl, rfl, 5, rfl, rfl, Nat.le_of_ble_eq_true rfl, ?_⟩ | refine ⟨rfl, rfl, 6, rfl, rfl, Nat.le_of_ble_eq_true rfl, ?_⟩ | refine ⟨rfl, rfl, 7, rfl, rfl, Nat.le_of_ble_eq_true rfl, ?_⟩ | refine ⟨rfl, rfl, 8, rfl, rfl, Nat.le_of_ble_eq_true rfl, ?_⟩ | refine ⟨rfl, rfl, 9, rfl, rfl, Nat.le_of_ble_eq_true rfl, ?_⟩ | refine ⟨rfl, rfl, 10, rfl, rfl, Nat.le_of_ble_eq_true rfl, ?_⟩ | refine ⟨rfl, rfl, 11, rfl, rfl, Nat.le_of_ble_eq_true rfl, ?_⟩)
  intro g10
  (first | refine ⟨rfl, rfl, 0, rfl, rfl, Nat.le_of_ble_eq_true rfl, ?_⟩ | refine ⟨rfl, rfl, 1, rfl, rfl, Nat.le_of_ble_eq_true rfl, ?_⟩ | refine ⟨rfl, rfl, 2, rfl, rfl, Nat.le_of_ble_eq_true rfl, ?_⟩ | refine ⟨rfl, rfl, 3, rfl, rfl, Nat.le_of_ble_eq_true rfl, ?_⟩ | refine ⟨rfl, rfl, 4, rfl, rfl, Nat.le_of_ble_eq_true rfl, ?_⟩ | refine ⟨rfl, rfl, 5, rfl, rfl, Nat.le_of_ble_eq_true rfl, ?_⟩ | refine ⟨rfl, rfl, 6, rfl, rfl, Nat.le_of_ble_eq_true rfl, ?_⟩ | refine ⟨rfl, rfl, 7, rfl, rfl, Nat.le_of_ble_eq_true rfl, ?_⟩ | refine ⟨rfl, rfl, 8, rfl, rfl, Nat.le_of_ble_eq_true rfl, ?_⟩ | refine ⟨rfl, rfl, 9, rfl, rfl, Nat.le_of_ble_eq_true rfl, ?_⟩ | refine ⟨rfl, rfl, 10, rfl, rfl, Nat.le_of_ble_eq_true rfl, ?_⟩ | refine ⟨rfl, rfl, 11, rfl, rfl, Nat.le_of_ble_eq_true rfl, ?_⟩)
  refine ⟨[none, none, none, none, none, none, none, none, none, none, none, some 11, none, none, none, none, none, none, none, none, none, none, none, none, none, none, none, none, none, none, none, none, none, none, none, none, none, none, none, none, none, none, some 42, some 43, some 44, some 45, some 46, some 47, some 48, some 49, some 50, some 51, some 52, some 53, some 54, some 55, some 56, some 57, some 58, some 59], [11], List BL, fun bs => bs.length ≤ 7 ∧ ∀ (i : Nat) (b : BL), bs[i]? = some b → b.Is (runC C00 (a ++ pick3 x y z i)), fun bs => [.int .i64 bs.length],
    fun bs => [.blk g9 80 [.slice Ax x.length cx, .slice Ay y.length cy, .slice Az z.length cz], .blk g10 82 (arr bs)] ++ bs.flatMap BL.h, fun bs => 7 - bs.length, [], ⟨Nat.zero_le _, fun i b h => by cases h⟩, ⟨rfl, trivial⟩, Ent.refl _, ?_⟩
  rintro bs ⟨hlen, hbs⟩ js
  refine ⟨fun hb => ?_, fun hb => ?_⟩
  · replace hb := of_decide_eq_true hb
    rcases bs with _ | ⟨b0, _ | ⟨b1, _ | ⟨b2, _ | ⟨b3, _ | ⟨b4, _ | ⟨b5, _ | ⟨b6, bs⟩⟩⟩⟩⟩⟩⟩
--CASES
    · refine ⟨[0], (.q 0 (.q 2 (.q 4 (.q 5 (.q 6 (.q 7 (.one 1 (.one 3 (.one 8 (.one 9 (.q 10 (.q 11 (.q 12 (.q 13 (.one 14 .nil))))))))))))))), by kernel_rfl, ?_⟩
      show pickK [0] [.blk g9 80 [.slice Ax x.length cx, .slice Ay y.length cy, .slice Az z.length cz], .blk g10 82 [.pointer none, .pointer none, .pointer none, .pointer none, .pointer none, .pointer none, .pointer none]] _
      refine ⟨by decide, ?_⟩
      intro zz hzz
      obtain rfl : zz = 0 := by rw [hzz]; show ((0 : Nat) : Int).tmod 3 = 0; decide
      refine ⟨by omega, by omega, ?_⟩
      refine ⟨_, ld 0 rfl rfl, ?_⟩
      refine ⟨rfl, fun g => ?_⟩
      refine ⟨sops a, sops_length a, (hsa.mono fun _ _ h => .inl (.inl h)).src, sops_one a, by show (_ + _) * 136 ≤ _; omega, by omega, .inr ⟨1, rfl, rfl, rfl, rfl, rfl, rfl, fun A5 cap5 hg5 => ?_⟩⟩
      refine ⟨sops x, sops_length x, (hsx.mono fun _ _ h => .inl (.inl h)).src, sops_one x, by show (_ + _) * 136 ≤ _; omega, by omega, .inr ⟨1, rfl, rfl, rfl, rfl, rfl, rfl, fun A6 cap6 hg6 => ?_⟩⟩
      refine ⟨[], _, built_app _ ((hG.rh _).rh _) (a := a) (b := x) (SlR.own 1 rfl (by rw [List.length_append, sops_length, sops_length]; omega) hg6) (by omega) (by omega) hoka hokx, ?_⟩
      rintro _ _ ⟨g, r, st, c, A1, cap1, rfl, hlok, hch, hg1, rfl⟩
      refine ⟨by show (0 : Int) ≤ ((0 : Nat) : Int); decide, by show ((0 : Nat) : Int) < ((7 : Nat) : Int); decide, ?_⟩
      refine ⟨rfl, rfl, 0, rfl, rfl, Nat.le_of_ble_eq_true rfl, ?_⟩
      intro zw hzw
      obtain rfl : zw = ((1 : Nat) : Int) := by rw [hzw]; rfl
      exact ⟨rfl, [⟨g, r, st, c⟩], ⟨Nat.le_of_ble_eq_true rfl, is_snoc (bs := []) hbs ⟨hlok, by show ∀ w, chainOf st w = runC C00 (a ++ pick3 x y z 0) w; exact hch⟩⟩, Nat.le_of_ble_eq_true rfl, ⟨rfl, trivial⟩, Ent.pick [0, 0, 1, 1, 1] rfl, rfl⟩
    · refine ⟨[0], (.q 0 (.q 2 (.q 4 (.q 5 (.q 6 (.q 7 (.one 1 (.one 3 (.one 8 (.one 9 (.q 10 (.q 11 (.q 12 (.q 13 (.one 14 .nil))))))))))))))), by kernel_rfl, ?_⟩
      show pickK [0] [.blk g9 80 [.slice Ax x.length cx, .slice Ay y.length cy, .slice Az z.length cz], .blk g10 82 [b0.v, .pointer none, .pointer none, .pointer none, .pointer none, .pointer none, .pointer none], b0.blk, b0.m, b0.rows] _
      refine ⟨by decide, ?_⟩
      intro zz hzz
      obtain rfl : zz = 1 := by rw [hzz]; show ((1 : Nat) : Int).tmod 3 = 1; decide
      refine ⟨by omega, by omega, ?_⟩
      refine ⟨_, ld 0 rfl rfl, ?_⟩
      refine ⟨rfl, fun g => ?_⟩
      refine ⟨sops a, sops_length a, (hsa.mono fun _ _ h => .inl (.inl h)).src, sops_one a, by show (_ + _) * 136 ≤ _; omega, by omega, .inr ⟨4, rfl, rfl, rfl, rfl, rfl, rfl, fun A5 cap5 hg5 => ?_⟩⟩
      refine ⟨sops y, sops_length y, (hsy.mono fun _ _ h => .inl (.inl h)).src, sops_one y, by show (_ + _) * 136 ≤ _; omega, by omega, .inr ⟨4, rfl, rfl, rfl, rfl, rfl, rfl, fun A6 cap6 hg6 => ?_⟩⟩
      refine ⟨[], _, built_app _ ((hG.rh _).rh _) (a := a) (b := y) (SlR.own 4 rfl (by rw [List.length_append, sops_length, sops_length]; omega) hg6) (by omega) (by omega) hoka hoky, ?_⟩
      rintro _ _ ⟨g, r, st, c, A1, cap1, rfl, hlok, hch, hg1, rfl⟩
      refine ⟨by show (0 : Int) ≤ ((1 : Nat) : Int); decide, by show ((1 : Nat) : Int) < ((7 : Nat) : Int); decide, ?_⟩
      refine ⟨rfl, rfl, 0, rfl, rfl, Nat.le_of_ble_eq_true rfl, ?_⟩
      intro zw hzw
      obtain rfl : zw = ((2 : Nat) : Int) := by rw [hzw]; rfl
      exact ⟨rfl, [b0, ⟨g, r, st, c⟩], ⟨Nat.le_of_ble_eq_true rfl, is_snoc (bs := [b0]) hbs ⟨hlok, by show ∀ w, chainOf st w = runC C00 (a ++ pick3 x y z 1) w; exact hch⟩⟩, Nat.le_of_ble_eq_true rfl, ⟨rfl, trivial⟩, Ent.pick [0, 0, 0, 0, 0, 1, 1, 1] rfl, rfl⟩
    · refine ⟨[0], (.q 0 (.q 2 (.q 4 (.q 5 (.q 6 (.q 7 (.one 1 (.one 3 (.one 8 (.one 9 (.q 10 (.q 11 (.q 12 (.q 13 (.one 14 .nil))))))))))))))), by kernel_rfl, ?_⟩
      show pickK [0] [.blk g9 80 [.slice Ax x.length cx, .slice Ay y.length cy, .slice Az z.length cz], .blk g10 82 [b0.v, b1.v, .pointer none, .pointer none, .pointer none, .pointer none, .pointer none], b0.blk, b0.m, b0.rows, b1.blk, b1.m, b1.rows] _
      refine ⟨by decide, ?_⟩
      intro zz hzz
      obtain rfl : zz = 2 := by rw [hzz]; show ((2 : Nat) : Int).tmod 3 = 2; decide
      refine ⟨by omega, by omega, ?_⟩
      refine ⟨_, ld 0 rfl rfl, ?_⟩
      refine ⟨rfl, fun g => ?_⟩
      refine ⟨sops a, sops_length a, (hsa.mono fun _ _ h => .inl (.inl h)).src, sops_one a, by show (_ + _) * 136 ≤ _; omega, by omega, .inr ⟨7, rfl, rfl, rfl, rfl, rfl, rfl, fun A5 cap5 hg5 => ?_⟩⟩
      refine ⟨sops z, sops_length z, (hsz.mono fun _ _ h => .inl (.inl h)).src, sops_one z, by show (_ + _) * 136 ≤ _; omega, by omega, .inr ⟨7, rfl, rfl, rfl, rfl, rfl, rfl, fun A6 cap6 hg6 => ?_⟩⟩
      refine ⟨[], _, built_app _ ((hG.rh _).rh _) (a := a) (b := z) (SlR.own 7 rfl (by rw [List.length_append, sops_length, sops_length]; omega) hg6) (by omega) (by omega) hoka hokz, ?_⟩
      rintro _ _ ⟨g, r, st, c, A1, cap1, rfl, hlok, hch, hg1, rfl⟩
      refine ⟨by show (0 : Int) ≤ ((2 : Nat) : Int); decide, by show ((2 : Nat) : Int) < ((7 : Nat) : Int); decide, ?_⟩
      refine ⟨rfl, rfl, 0, rfl, rfl, Nat.le_of_ble_eq_true rfl, ?_⟩
      intro zw hzw
      obtain rfl : zw = ((3 : Nat) : Int) := by rw [hzw]; rfl
      exact ⟨rfl, [b0, b1, ⟨g, r, st, c⟩], ⟨Nat.le_of_ble_eq_true rfl, is_snoc (bs := [b0, b1]) hbs ⟨hlok, by show ∀ w, chainOf st w = runC C00 (a ++ pick3 x y z 2) w; exact hch⟩⟩, Nat.le_of_ble_eq_true rfl, ⟨rfl, trivial⟩, Ent.pick [0, 0, 0, 0, 0, 0, 0, 0, 1, 1, 1] rfl, rfl⟩
    · refine ⟨[0], (.q 0 (.q 2 (.q 4 (.q 5 (.q 6 (.q 7 (.one 1 (.one 3 (.one 8 (.one 9 (.q 10 (.q 11 (.q 12 (.q 13 (.one 14 .nil))))))))))))))), by kernel_rfl, ?_⟩
      show pickK [0] [.blk g9 80 [.slice Ax x.length cx, .slice Ay y.length cy, .slice Az z.length cz], .blk g10 82 [b0.v, b1.v, b2.v, .pointer none, .pointer none, .pointer none, .pointer none], b0.blk, b0.m, b0.rows, b1.blk, b1.m, b1.rows, b2.blk, b2.m, b2.rows] _
      refine ⟨by decide, ?_⟩
      intro zz hzz
      obtain rfl : zz = 0 := by rw [hzz]; show ((3 : Nat) : Int).tmod 3 = 0; decide
      refine ⟨by omega, by omega, ?_⟩
      refine ⟨_, ld 0 rfl rfl, ?_⟩
      refine ⟨rfl, fun g => ?_⟩
      refine ⟨sops a, sops_length a, (hsa.mono fun _ _ h => .inl (.inl h)).src, sops_one a, by show (_ + _) * 136 ≤ _; omega, by omega, .inr ⟨10, rfl, rfl, rfl, rfl, rfl, rfl, fun A5 cap5 hg5 => ?_⟩⟩
      refine ⟨sops x, sops_length x, (hsx.mono fun _ _ h => .inl (.inl h)).src, sops_one x, by show (_ + _) * 136 ≤ _; omega, by omega, .inr ⟨10, rfl, rfl, rfl, rfl, rfl, rfl, fun A6 cap6 hg6 => ?_⟩⟩
      refine ⟨[], _, built_app _ ((hG.rh _).rh _) (a := a) (b := x) (SlR.own 10 rfl (by rw [List.length_append, sops_length, sops_length]; omega) hg6) (by omega) (by omega) hoka hokx, ?_⟩
      rintro _ _ ⟨g, r, st, c, A1, cap1, rfl, hlok, hch, hg1, rfl⟩
      refine ⟨by show (0 : Int) ≤ ((3 : Nat) : Int); decide, by show ((3 : Nat) : Int) < ((7 : Nat) : Int); decide, ?_⟩
      refine ⟨rfl, rfl, 0, rfl, rfl, Nat.le_of_ble_eq_true rfl, ?_⟩
      intro zw hzw
      obtain rfl : zw = ((4 : Nat) : Int) := by rw [hzw]; rfl
      exact ⟨rfl, [b0, b1, b2, ⟨g, r, st, c⟩], ⟨Nat.le_of_ble_eq_true rfl, is_snoc (bs := [b0, b1, b2]) hbs ⟨hlok, by show ∀ w, chainOf st w = runC C00 (a ++ pick3 x y z 3) w; exact hch⟩⟩, Nat.le_of_ble_eq_true rfl, ⟨rfl, trivial⟩, Ent.pick [0, 0, 0, 0, 0, 0, 0, 0, 0, 0, 0, 1, 1, 1] rfl, rfl⟩
    · refine ⟨[0], (.q 0 (.q 2 (.q 4 (.q 5 (.q 6 (.q 7 (.one 1 (.one 3 (.one 8 (.one 9 (.q 10 (.q 11 (.q 12 (.q 13 (.one 14 .nil))))))))))))))), by kernel_rfl, ?_⟩
      show pickK [0] [.blk g9 80 [.slice Ax x.length cx, .slice Ay y.length cy, .slice Az z.length cz], .blk g10 82 [b0.v, b1.v, b2.v, b3.v, .pointer none, .pointer none, .pointer none], b0.blk, b0.m, b0.rows, b1.blk, b1.m, b1.rows, b2.blk, b2.m, b2.rows, b3.blk, b3.m, b3.rows] _
      refine ⟨by decide, ?_⟩
      intro zz hzz
      obtain rfl : zz = 1 := by rw [hzz]; show ((4 : Nat) : Int).tmod 3 = 1; decide
      refine ⟨by omega, by omega, ?_⟩
      refine ⟨_, ld 0 rfl rfl, ?_⟩
      refine ⟨rfl, fun g => ?_⟩
      refine ⟨sops a, sops_length a, (hsa.mono fun _ _ h => .inl (.inl h)).src, sops_one a, by show (_ + _) * 136 ≤ _; omega, by omega, .inr ⟨13, rfl, rfl, rfl, rfl, rfl, rfl, fun A5 cap5 hg5 => ?_⟩⟩
      refine ⟨sops y, sops_length y, (hsy.mono fun _ _ h => .inl (.inl h)).src, sops_one y, by show (_ + _) * 136 ≤ _; omega, by omega, .inr ⟨13, rfl, rfl, rfl, rfl, rfl, rfl, fun A6 cap6 hg6 => ?_⟩⟩
      refine ⟨[], _, built_app _ ((hG.rh _).rh _) (a := a) (b := y) (SlR.own 13 rfl (by rw [List.length_append, sops_length, sops_length]; omega) hg6) (by omega) (by omega) hoka hoky, ?_⟩
      rintro _ _ ⟨g, r, st, c, A1, cap1, rfl, hlok, hch, hg1, rfl⟩
      refine ⟨by show (0 : Int) ≤ ((4 : Nat) : Int); decide, by show ((4 : Nat) : Int) < ((7 : Nat) : Int); decide, ?_⟩
      refine ⟨rfl, rfl, 0, rfl, rfl, Nat.le_of_ble_eq_true rfl, ?_⟩
      intro zw hzw
      obtain rfl : zw = ((5 : Nat) : Int) := by rw [hzw]; rfl
      exact ⟨rfl, [b0, b1, b2, b3, ⟨g, r, st, c⟩], ⟨Nat.le_of_ble_eq_true rfl, is_snoc (bs := [b0, b1, b2, b3]) hbs ⟨hlok, by show ∀ w, chainOf st w = runC C00 (a ++ pick3 x y z 4) w; exact hch⟩⟩, Nat.le_of_ble_eq_true rfl, ⟨rfl, trivial⟩, Ent.pick [0, 0, 0, 0, 0, 0, 0, 0, 0, 0, 0, 0, 0, 0, 1, 1, 1] rfl, rfl⟩
    · refine ⟨[0], (.q 0 (.q 2 (.q 4 (.q 5 (.q 6 (.q 7 (.one 1 (.one 3 (.one 8 (.one 9 (.q 10 (.q 11 (.q 12 (.q 13 (.one 14 .nil))))))))))))))), by kernel_rfl, ?_⟩
      show pickK [0] [.blk g9 80 [.slice Ax x.length cx, .slice Ay y.length cy, .slice Az z.length cz], .blk g10 82 [b0.v, b1.v, b2.v, b3.v, b4.v, .pointer none, .pointer none], b0.blk, b0.m, b0.rows, b1.blk, b1.m, b1.rows, b2.blk, b2.m, b2.rows, b3.blk, b3.m, b3.rows, b4.blk, b4.m, b4.rows] _
      refine ⟨by decide, ?_⟩
      intro zz hzz
      obtain rfl : zz = 2 := by rw [hzz]; show ((5 : Nat) : Int).tmod 3 = 2; decide
      refine ⟨by omega, by omega, ?_⟩
      refine ⟨_, ld 0 rfl rfl, ?_⟩
      refine ⟨rfl, fun g => ?_⟩
      refine ⟨sops a, sops_length a, (hsa.mono fun _ _ h => .inl (.inl h)).src, sops_one a, by show (_ + _) * 136 ≤ _; omega, by omega, .inr ⟨16, rfl, rfl, rfl, rfl, rfl, rfl, fun A5 cap5 hg5 => ?_⟩⟩
      refine ⟨sops z, sops_length z, (hsz.mono fun _ _ h => .inl (.inl h)).src, sops_one z, by show (_ + _) * 136 ≤ _; omega, by omega, .inr ⟨16, rfl, rfl, rfl, rfl, rfl, rfl, fun A6 cap6 hg6 => ?_⟩⟩
      refine ⟨[], _, built_app _ ((hG.rh _).rh _) (a := a) (b := z) (SlR.own 16 rfl (by rw [List.length_append, sops_length, sops_length]; omega) hg6) (by omega) (by omega) hoka hokz, ?_⟩
      rintro _ _ ⟨g, r, st, c, A1, cap1, rfl, hlok, hch, hg1, rfl⟩
      refine ⟨by show (0 : Int) ≤ ((5 : Nat) : Int); decide, by show ((5 : Nat) : Int) < ((7 : Nat) : Int); decide, ?_⟩
      refine ⟨rfl, rfl, 0, rfl, rfl, Nat.le_of_ble_eq_true rfl, ?_⟩
      intro zw hzw
      obtain rfl : zw = ((6 : Nat) : Int) := by rw [hzw]; rfl
      exact ⟨rfl, [b0, b1, b2, b3, b4, ⟨g, r, st, c⟩], ⟨Nat.le_of_ble_eq_true rfl, is_snoc (bs := [b0, b1, b2, b3, b4]) hbs ⟨hlok, by show ∀ w, chainOf st w = runC C00 (a ++ pick3 x y z 5) w; exact hch⟩⟩, Nat.le_of_ble_eq_true rfl, ⟨rfl, trivial⟩, Ent.pick [0, 0, 0, 0, 0, 0, 0, 0, 0, 0, 0, 0, 0, 0, 0, 0, 0, 1, 1, 1] rfl, rfl⟩
    · refine ⟨[0], (.q 0 (.q 2 (.q 4 (.q 5 (.q 6 (.q 7 (.one 1 (.one 3 (.one 8 (.one 9 (.q 10 (.q 11 (.q 12 (.q 13 (.one 14 .nil))))))))))))))), by kernel_rfl, ?_⟩
      show pickK [0] [.blk g9 80 [.slice Ax x.length cx, .slice Ay y.length cy, .slice Az z.length cz], .blk g10 82 [b0.v, b1.v, b2.v, b3.v, b4.v, b5.v, .pointer none], b0.blk, b0.m, b0.rows, b1.blk, b1.m, b1.rows, b2.blk, b2.m, b2.rows, b3.blk, b3.m, b3.rows, b4.blk, b4.m, b4.rows, b5.blk, b5.m, b5.rows] _
      refine ⟨by decide, ?_⟩
      intro zz hzz
      obtain rfl : zz = 0 := by rw [hzz]; show ((6 : Nat) : Int).tmod 3 = 0; decide
      refine ⟨by omega, by omega, ?_⟩
      refine ⟨_, ld 0 rfl rfl, ?_⟩
      refine ⟨rfl, fun g => ?_⟩
      refine ⟨sops a, sops_length a, (hsa.mono fun _ _ h => .inl (.inl h)).src, sops_one a, by show (_ + _) * 136 ≤ _; omega, by omega, .inr ⟨19, rfl, rfl, rfl, rfl, rfl, rfl, fun A5 cap5 hg5 => ?_⟩⟩
      refine ⟨sops x, sops_length x, (hsx.mono fun _ _ h => .inl (.inl h)).src, sops_one x, by show (_ + _) * 136 ≤ _; omega, by omega, .inr ⟨19, rfl, rfl, rfl, rfl, rfl, rfl, fun A6 cap6 hg6 => ?_⟩⟩
      refine ⟨[], _, built_app _ ((hG.rh _).rh _) (a := a) (b := x) (SlR.own 19 rfl (by rw [List.length_append, sops_length, sops_length]; omega) hg6) (by omega) (by omega) hoka hokx, ?_⟩
      rintro _ _ ⟨g, r, st, c, A1, cap1, rfl, hlok, hch, hg1, rfl⟩
      refine ⟨by show (0 : Int) ≤ ((6 : Nat) : Int); decide, by show ((6 : Nat) : Int) < ((7 : Nat) : Int); decide, ?_⟩
      refine ⟨rfl, rfl, 0, rfl, rfl, Nat.le_of_ble_eq_true rfl, ?_⟩
      intro zw hzw
      obtain rfl : zw = ((7 : Nat) : Int) := by rw [hzw]; rfl
      exact ⟨rfl, [b0, b1, b2, b3, b4, b5, ⟨g, r, st, c⟩], ⟨Nat.le_of_ble_eq_true rfl, is_snoc (bs := [b0, b1, b2, b3, b4, b5]) hbs ⟨hlok, by show ∀ w, chainOf st w = runC C00 (a ++ pick3 x y z 6) w; exact hch⟩⟩, Nat.le_of_ble_eq_true rfl, ⟨rfl, trivial⟩, Ent.pick [0, 0, 0, 0, 0, 0, 0, 0, 0, 0, 0, 0, 0, 0, 0, 0, 0, 0, 0, 0, 1, 1, 1] rfl, rfl⟩
--ENDCASES
    · exact absurd hb (by simp only [List.length_cons]; omega)
  · replace hb := of_decide_eq_false hb
--TAIL
    rcases bs with _ | ⟨⟨G0, r0, t0, c0⟩, _ | ⟨⟨G1, r1, t1, c1⟩, _ | ⟨⟨G2, r2, t2, c2⟩, _ | ⟨⟨G3, r3, t3, c3⟩, _ | ⟨⟨G4, r4, t4, c4⟩, _ | ⟨⟨G5, r5, t5, c5⟩, _ | ⟨⟨G6, r6, t6, c6⟩, _ | ⟨b7, bs⟩⟩⟩⟩⟩⟩⟩⟩
    · exact absurd hb (by simp only [List.length_cons, List.length_nil]; omega)
    · exact absurd hb (by simp only [List.length_cons, List.length_nil]; omega)
    · exact absurd hb (by simp only [List.length_cons, List.length_nil]; omega)
    · exact absurd hb (by simp only [List.length_cons, List.length_nil]; omega)
    · exact absurd hb (by simp only [List.length_cons, List.length_nil]; omega)
    · exact absurd hb (by simp only [List.length_cons, List.length_nil]; omega)
    · exact absurd hb (by simp only [List.length_cons, List.length_nil]; omega)
    rotate_left
    · exact absurd hlen (by simp only [List.length_cons]; omega)
    obtain ⟨hGX, hnX⟩ := built_good (a ++ x)
    obtain ⟨hGY, hnY⟩ := built_good (a ++ y)
    obtain ⟨hGZ, hnZ⟩ := built_good (a ++ z)
    rw [List.length_append] at hnX hnY hnZ
    have o0 : LogOk t0 c0 := (hbs 0 _ rfl).ok
    have ch0 : ∀ w, chainOf t0 w = runC C00 (a ++ x) w := (hbs 0 _ rfl).ch
    have o1 : LogOk t1 c1 := (hbs 1 _ rfl).ok
    have ch1 : ∀ w, chainOf t1 w = runC C00 (a ++ y) w := (hbs 1 _ rfl).ch
    have o2 : LogOk t2 c2 := (hbs 2 _ rfl).ok
    have ch2 : ∀ w, chainOf t2 w = runC C00 (a ++ z) w := (hbs 2 _ rfl).ch
    have o3 : LogOk t3 c3 := (hbs 3 _ rfl).ok
    have ch3 : ∀ w, chainOf t3 w = runC C00 (a ++ x) w := (hbs 3 _ rfl).ch
    have o4 : LogOk t4 c4 := (hbs 4 _ rfl).ok
    have ch4 : ∀ w, chainOf t4 w = runC C00 (a ++ y) w := (hbs 4 _ rfl).ch
    have o5 : LogOk t5 c5 := (hbs 5 _ rfl).ok
    have ch5 : ∀ w, chainOf t5 w = runC C00 (a ++ z) w := (hbs 5 _ rfl).ch
    have o6 : LogOk t6 c6 := (hbs 6 _ rfl).ok
    have ch6 : ∀ w, chainOf t6 w = runC C00 (a ++ x) w := (hbs 6 _ rfl).ch
    clear hbs hlen hb
    generalize runC C00 (a ++ x) = X at *
    generalize runC C00 (a ++ y) = Y at *
    generalize runC C00 (a ++ z) = Z at *
    obtain ⟨eX, heX⟩ : ∃ u, encL (flatC X) = u := ⟨_, rfl⟩
    refine ⟨[1], .cut (.q 0 (.q 1 (.q 2 (.q 3 (.one 4 (.q 5 (.q 6 (.q 7 (.q 8 (.q 11 (.q 12 (.one 9 (.two 10 (.one 13 (.one 14 (.q 15 (.q 16 .nil)))) 13 (.two 10 (.one 14 (.q 15 (.q 16 .nil))) 14 (.one 10 (.q 15 (.q 16 .nil))))))))))))))))), by kernel_rfl, ?_⟩
    show pickK [1] [(.blk g9 80 [.slice Ax x.length cx, .slice Ay y.length cy, .slice Az z.length cz] : HA), (.blk g10 82 [.pointer (some ⟨G0, 0, .none⟩), .pointer (some ⟨G1, 0, .none⟩), .pointer (some ⟨G2, 0, .none⟩), .pointer (some ⟨G3, 0, .none⟩), .pointer (some ⟨G4, 0, .none⟩), .pointer (some ⟨G5, 0, .none⟩), .pointer (some ⟨G6, 0, .none⟩)] : HA), (.blk G0 161 [.map (some r0)] : HA), logM r0 t0 c0, (.rows (rowsOf t0) : HA), (.blk G1 161 [.map (some r1)] : HA), logM r1 t1 c1, (.rows (rowsOf t1) : HA), (.blk G2 161 [.map (some r2)] : HA), logM r2 t2 c2, (.rows (rowsOf t2) : HA), (.blk G3 161 [.map (some r3)] : HA), logM r3 t3 c3, (.rows (rowsOf t3) : HA), (.blk G4 161 [.map (some r4)] : HA), logM r4 t4 c4, (.rows (rowsOf t4) : HA), (.blk G5 161 [.map (some r5)] : HA), logM r5 t5 c5, (.rows (rowsOf t5) : HA), (.blk G6 161 [.map (some r6)] : HA), logM r6 t6 c6, (.rows (rowsOf t6) : HA)] _
    refine ⟨[none, none, none, none, none, none, none, none, none, none, none, none, none, none, none, none, none, none, none, none, none, none, none, none, none, none, none, none, none, none, none, none, none, none, none, none, none, none, none, none, none, none, none, none, none, none, none, none, none, none, none, none, none, none, none, none, none, none, none, none, some 60, some 61, some 62, some 63, some 64, some 65, some 66, some 67, some 68, some 69, some 70, some 71, some 72, some 73, some 74, some 75, some 76], [76], Unit, fun _ => True, fun _ => [.bool false], fun _ => [(.blk G0 161 [.map (some r0)] : HA), logM r0 t0 c0, (.rows (rowsOf t0) : HA), (.blk G1 161 [.map (some r1)] : HA), logM r1 t1 c1, (.rows (rowsOf t1) : HA), (.blk G2 161 [.map (some r2)] : HA), logM r2 t2 c2, (.rows (rowsOf t2) : HA), (.blk G3 161 [.map (some r3)] : HA), logM r3 t3 c3, (.rows (rowsOf t3) : HA), (.blk G4 161 [.map (some r4)] : HA), logM r4 t4 c4, (.rows (rowsOf t4) : HA)], ?_, ?_⟩
    · refine ⟨by decide, by decide, ?_⟩
      refine ⟨_, ld 0 rfl rfl, ?_⟩
      refine ⟨by decide, by decide, ?_⟩
      refine ⟨_, ld 0 rfl rfl, ?_⟩
      refine ⟨[19, 19, 19], _, Merge_self _ ⟨r6, t6, c6, o6, ch6, rfl⟩ hGX (by omega), ?_⟩
      rintro _ _ ⟨rfl, ⟨r6_1, t6_1, c6_1, o6_1, ch6_1, rfl⟩⟩
      repeat (first | (refine ⟨fun h => ?_, fun h => ?_⟩; rotate_left 1; (focus (exfalso; (first | (with_reducible (cases h; done)) | (revert h; simp; done) | (revert h; simp; omega) | (revert h; simp [*]; done)))); clear h) | (refine ⟨fun h => ?_, fun h => ?_⟩; (focus (exfalso; (first | (with_reducible (cases h; done)) | (revert h; simp; done) | (revert h; simp; omega) | (revert h; simp [*]; done)))); clear h))
      refine ⟨by decide, by decide, ?_⟩
      repeat (first | (refine ⟨fun h => ?_, fun h => ?_⟩; rotate_left 1; (focus (exfalso; (first | (with_reducible (cases h; done)) | (revert h; simp; done) | (revert h; simp; omega) | (revert h; simp [*]; done)))); clear h) | (refine ⟨fun h => ?_, fun h => ?_⟩; (focus (exfalso; (first | (with_reducible (cases h; done)) | (revert h; simp; done) | (revert h; simp; omega) | (revert h; simp [*]; done)))); clear h))
      refine ⟨_, ld 0 rfl rfl, ?_⟩
      repeat (first | (refine ⟨fun h => ?_, fun h => ?_⟩; rotate_left 1; (focus (exfalso; (first | (with_reducible (cases h; done)) | (revert h; simp; done) | (revert h; simp; omega) | (revert h; simp [*]; done)))); clear h) | (refine ⟨fun h => ?_, fun h => ?_⟩; (focus (exfalso; (first | (with_reducible (cases h; done)) | (revert h; simp; done) | (revert h; simp; omega) | (revert h; simp [*]; done)))); clear h))
      refine ⟨by decide, by decide, ?_⟩
      repeat (first | (refine ⟨fun h => ?_, fun h => ?_⟩; rotate_left 1; (focus (exfalso; (first | (with_reducible (cases h; done)) | (revert h; simp; done) | (revert h; simp; omega) | (revert h; simp [*]; done)))); clear h) | (refine ⟨fun h => ?_, fun h => ?_⟩; (focus (exfalso; (first | (with_reducible (cases h; done)) | (revert h; simp; done) | (revert h; simp; omega) | (revert h; simp [*]; done)))); clear h))
      refine ⟨_, ld 0 rfl rfl, ?_⟩
      repeat (first | (refine ⟨fun h => ?_, fun h => ?_⟩; rotate_left 1; (focus (exfalso; (first | (with_reducible (cases h; done)) | (revert h; simp; done) | (revert h; simp; omega) | (revert h; simp [*]; done)))); clear h) | (refine ⟨fun h => ?_, fun h => ?_⟩; (focus (exfalso; (first | (with_reducible (cases h; done)) | (revert h; simp; done) | (revert h; simp; omega) | (revert h; simp [*]; done)))); clear h))
      refine ⟨[20], _, Encode_ok _ (C := X) o6_1 (logR_own 19 20 o6_1 rfl rfl) ch6_1 hGX (by omega), ?_⟩
      rw [heX]
      rintro _ _ ⟨_, ⟨Ap, _, kp, _, rfl, rfl, rfl, rfl, hgp⟩, rfl⟩
      repeat (first | (refine ⟨fun h => ?_, fun h => ?_⟩; rotate_left 1; (focus (exfalso; (first | (with_reducible (cases h; done)) | (revert h; simp; done) | (revert h; simp; omega) | (revert h; simp [*]; done)))); clear h) | (refine ⟨fun h => ?_, fun h => ?_⟩; (focus (exfalso; (first | (with_reducible (cases h; done)) | (revert h; simp; done) | (revert h; simp; omega) | (revert h; simp [*]; done)))); clear h))
      refine ⟨?_, ?_⟩
      · repeat (first | (refine ⟨fun h => ?_, fun h => ?_⟩; rotate_left 1; (focus (exfalso; (first | (with_reducible (cases h; done)) | (revert h; simp; done) | (revert h; simp; omega) | (revert h; simp [*]; done)))); clear h) | (refine ⟨fun h => ?_, fun h => ?_⟩; (focus (exfalso; (first | (with_reducible (cases h; done)) | (revert h; simp; done) | (revert h; simp; omega) | (revert h; simp [*]; done)))); clear h))
        refine ⟨eX, rfl, fun j b hb => (BsR.own 22 rfl rfl rfl hgp).at_ hb, ?_⟩
        repeat (first | (refine ⟨fun h => ?_, fun h => ?_⟩; rotate_left 1; (focus (exfalso; (first | (with_reducible (cases h; done)) | (revert h; simp; done) | (revert h; simp; omega) | (revert h; simp [*]; done)))); clear h) | (refine ⟨fun h => ?_, fun h => ?_⟩; (focus (exfalso; (first | (with_reducible (cases h; done)) | (revert h; simp; done) | (revert h; simp; omega) | (revert h; simp [*]; done)))); clear h))
        refine ⟨[11], _, Encode_ok _ (C := X) o3 (logR_own 10 11 o3 rfl rfl) ch3 hGX (by omega), ?_⟩
        rw [heX]
        rintro _ _ ⟨_, ⟨Aq, _, kq, _, rfl, rfl, rfl, rfl, hgq⟩, rfl⟩
        repeat (first | (refine ⟨fun h => ?_, fun h => ?_⟩; rotate_left 1; (focus (exfalso; (first | (with_reducible (cases h; done)) | (revert h; simp; done) | (revert h; simp; omega) | (revert h; simp [*]; done)))); clear h) | (refine ⟨fun h => ?_, fun h => ?_⟩; (focus (exfalso; (first | (with_reducible (cases h; done)) | (revert h; simp; done) | (revert h; simp; omega) | (revert h; simp [*]; done)))); clear h))
        refine ⟨eX, rfl, fun j b hb => (BsR.own 23 rfl rfl rfl hgq).at_ hb, ?_⟩
        repeat (first | (refine ⟨fun h => ?_, fun h => ?_⟩; rotate_left 1; (focus (exfalso; (first | (with_reducible (cases h; done)) | (revert h; simp; done) | (revert h; simp; omega) | (revert h; simp [*]; done)))); clear h) | (refine ⟨fun h => ?_, fun h => ?_⟩; (focus (exfalso; (first | (with_reducible (cases h; done)) | (revert h; simp; done) | (revert h; simp; omega) | (revert h; simp [*]; done)))); clear h))
        exact ⟨rfl, (), trivial, ⟨by show Value.bool (!decide (eX = eX)) = Value.bool false; rw [decide_eq_true rfl]; rfl, trivial⟩, Ent.pick [1, 1, 1, 1, 1, 1, 1, 1, 1, 1, 12, 1, 1, 1, 1] rfl, rfl⟩
      · repeat (first | (refine ⟨fun h => ?_, fun h => ?_⟩; rotate_left 1; (focus (exfalso; (first | (with_reducible (cases h; done)) | (revert h; simp; done) | (revert h; simp; omega) | (revert h; simp [*]; done)))); clear h) | (refine ⟨fun h => ?_, fun h => ?_⟩; (focus (exfalso; (first | (with_reducible (cases h; done)) | (revert h; simp; done) | (revert h; simp; omega) | (revert h; simp [*]; done)))); clear h))
        refine ⟨[11], _, Encode_ok _ (C := X) o3 (logR_own 10 11 o3 rfl rfl) ch3 hGX (by omega), ?_⟩
        rw [heX]
        rintro _ _ ⟨_, ⟨Aq, _, kq, _, rfl, rfl, rfl, rfl, hgq⟩, rfl⟩
        repeat (first | (refine ⟨fun h => ?_, fun h => ?_⟩; rotate_left 1; (focus (exfalso; (first | (with_reducible (cases h; done)) | (revert h; simp; done) | (revert h; simp; omega) | (revert h; simp [*]; done)))); clear h) | (refine ⟨fun h => ?_, fun h => ?_⟩; (focus (exfalso; (first | (with_reducible (cases h; done)) | (revert h; simp; done) | (revert h; simp; omega) | (revert h; simp [*]; done)))); clear h))
        refine ⟨?_, ?_⟩
        · repeat (first | (refine ⟨fun h => ?_, fun h => ?_⟩; rotate_left 1; (focus (exfalso; (first | (with_reducible (cases h; done)) | (revert h; simp; done) | (revert h; simp; omega) | (revert h; simp [*]; done)))); clear h) | (refine ⟨fun h => ?_, fun h => ?_⟩; (focus (exfalso; (first | (with_reducible (cases h; done)) | (revert h; simp; done) | (revert h; simp; omega) | (revert h; simp [*]; done)))); clear h))
          refine ⟨eX, rfl, fun j b hb => (BsR.own 21 rfl rfl rfl hgp).at_ hb, ?_⟩
          repeat (first | (refine ⟨fun h => ?_, fun h => ?_⟩; rotate_left 1; (focus (exfalso; (first | (with_reducible (cases h; done)) | (revert h; simp; done) | (revert h; simp; omega) | (revert h; simp [*]; done)))); clear h) | (refine ⟨fun h => ?_, fun h => ?_⟩; (focus (exfalso; (first | (with_reducible (cases h; done)) | (revert h; simp; done) | (revert h; simp; omega) | (revert h; simp [*]; done)))); clear h))
          refine ⟨eX, rfl, fun j b hb => (BsR.own 23 rfl rfl rfl hgq).at_ hb, ?_⟩
          repeat (first | (refine ⟨fun h => ?_, fun h => ?_⟩; rotate_left 1; (focus (exfalso; (first | (with_reducible (cases h; done)) | (revert h; simp; done) | (revert h; simp; omega) | (revert h; simp [*]; done)))); clear h) | (refine ⟨fun h => ?_, fun h => ?_⟩; (focus (exfalso; (first | (with_reducible (cases h; done)) | (revert h; simp; done) | (revert h; simp; omega) | (revert h; simp [*]; done)))); clear h))
          exact ⟨rfl, (), trivial, ⟨by show Value.bool (!decide (eX = eX)) = Value.bool false; rw [decide_eq_true rfl]; rfl, trivial⟩, Ent.pick [1, 1, 1, 1, 1, 1, 1, 1, 1, 1, 12, 1, 1, 1, 1] rfl, rfl⟩
        · repeat (first | (refine ⟨fun h => ?_, fun h => ?_⟩; rotate_left 1; (focus (exfalso; (first | (with_reducible (cases h; done)) | (revert h; simp; done) | (revert h; simp; omega) | (revert h; simp [*]; done)))); clear h) | (refine ⟨fun h => ?_, fun h => ?_⟩; (focus (exfalso; (first | (with_reducible (cases h; done)) | (revert h; simp; done) | (revert h; simp; omega) | (revert h; simp [*]; done)))); clear h))
          refine ⟨eX, rfl, fun j b hb => (BsR.own 23 rfl rfl rfl hgq).at_ hb, ?_⟩
          repeat (first | (refine ⟨fun h => ?_, fun h => ?_⟩; rotate_left 1; (focus (exfalso; (first | (with_reducible (cases h; done)) | (revert h; simp; done) | (revert h; simp; omega) | (revert h; simp [*]; done)))); clear h) | (refine ⟨fun h => ?_, fun h => ?_⟩; (focus (exfalso; (first | (with_reducible (cases h; done)) | (revert h; simp; done) | (revert h; simp; omega) | (revert h; simp [*]; done)))); clear h))
          refine ⟨eX, rfl, fun j b hb => (BsR.own 21 rfl rfl rfl hgp).at_ hb, ?_⟩
          repeat (first | (refine ⟨fun h => ?_, fun h => ?_⟩; rotate_left 1; (focus (exfalso; (first | (with_reducible (cases h; done)) | (revert h; simp; done) | (revert h; simp; omega) | (revert h; simp [*]; done)))); clear h) | (refine ⟨fun h => ?_, fun h => ?_⟩; (focus (exfalso; (first | (with_reducible (cases h; done)) | (revert h; simp; done) | (revert h; simp; omega) | (revert h; simp [*]; done)))); clear h))
          exact ⟨rfl, (), trivial, ⟨by show Value.bool (!decide (eX = eX)) = Value.bool false; rw [decide_eq_true rfl]; rfl, trivial⟩, Ent.pick [1, 1, 1, 1, 1, 1, 1, 1, 1, 1, 12, 1, 1, 1, 1] rfl, rfl⟩
    rintro ⟨⟩ _ js2
    repeat (first | (refine ⟨fun h => ?_, fun h => ?_⟩; rotate_left 1; (focus (exfalso; (first | (with_reducible (cases h; done)) | (revert h; simp; done) | (revert h; simp; omega) | (revert h; simp [*]; done)))); clear h) | (refine ⟨fun h => ?_, fun h => ?_⟩; (focus (exfalso; (first | (with_reducible (cases h; done)) | (revert h; simp; done) | (revert h; simp; omega) | (revert h; simp [*]; done)))); clear h))
    by_cases hXY : agreesB X Y = true
    case neg =>
      have hYX : ¬ agreesB Y X = true := fun h => hXY (by rw [agreesB_comm]; exact h)
      have eq1 : mergeR X Y = (X, 13) := by rw [mergeR_small (by omega), if_neg hXY]
      have eq2 : mergeR Y X = (Y, 13) := by rw [mergeR_small (by omega), if_neg hYX]
      refine ⟨[0], (.q 0 (.q 1 (.q 2 (.q 3 (.q 5 (.q 6 (.q 7 (.q 8 (.one 4 (.one 9 (.q 10 (.q 11 .nil)))))))))))), by kernel_rfl, ?_⟩
      refine ⟨by decide, by decide, ?_⟩
      refine ⟨_, ld 0 rfl rfl, ?_⟩
      refine ⟨by decide, by decide, ?_⟩
      refine ⟨_, ld 0 rfl rfl, ?_⟩
      refine ⟨by decide, by decide, ?_⟩
      refine ⟨_, ld 0 rfl rfl, ?_⟩
      refine ⟨by decide, by decide, ?_⟩
      refine ⟨_, ld 0 rfl rfl, ?_⟩
      refine ⟨[0, 0, 0, 0, 0, 0], _, Merge_ok _ (C := X) (D := Y) ⟨r0, t0, c0, o0, ch0, rfl⟩ ⟨r1, t1, c1, o1, ch1, rfl⟩ hGX hGY (by omega) (by omega), ?_⟩
      rw [eq1]
      rintro _ _ ⟨rfl, _, _, rfl, ⟨r0_1, t0_1, c0_1, o0_1, ch0_1, rfl⟩, ⟨r1_2, t1_2, c1_2, o1_2, ch1_2, rfl⟩⟩
      refine ⟨[6, 6, 6, 3, 3, 3], _, Merge_ok _ (C := Y) (D := X) ⟨r4, t4, c4, o4, ch4, rfl⟩ ⟨r3, t3, c3, o3, ch3, rfl⟩ hGY hGX (by omega) (by omega), ?_⟩
      rw [eq2]
      rintro _ _ ⟨rfl, _, _, rfl, ⟨r4_3, t4_3, c4_3, o4_3, ch4_3, rfl⟩, ⟨r3_4, t3_4, c3_4, o3_4, ch3_4, rfl⟩⟩
      repeat (first | (refine ⟨fun h => ?_, fun h => ?_⟩; rotate_left 1; (focus (exfalso; (first | (with_reducible (cases h; done)) | (revert h; simp; done) | (revert h; simp; omega) | (revert h; simp [*]; done)))); clear h) | (refine ⟨fun h => ?_, fun h => ?_⟩; (focus (exfalso; (first | (with_reducible (cases h; done)) | (revert h; simp; done) | (revert h; simp; omega) | (revert h; simp [*]; done)))); clear h))
      refine ⟨[0], (.q 0 (.q 1 (.q 4 (.q 5 (.one 2 (.two 3 (.one 6 (.one 7 (.q 8 (.q 9 .nil)))) 6 (.two 3 (.one 7 (.q 8 (.q 9 .nil))) 7 (.one 3 (.q 8 (.q 9 .nil)))))))))), by kernel_rfl, ?_⟩
      refine ⟨by decide, by decide, ?_⟩
      refine ⟨_, ld 0 rfl rfl, ?_⟩
      refine ⟨by decide, by decide, ?_⟩
      refine ⟨_, ld 0 rfl rfl, ?_⟩
      refine ⟨[4], _, Encode_ok _ (C := X) o0_1 (logR_own 3 4 o0_1 rfl rfl) ch0_1 hGX (by omega), ?_⟩
      rw [heX]
      rintro _ _ ⟨_, ⟨Ap, _, kp, _, rfl, rfl, rfl, rfl, hgp⟩, rfl⟩
      refine ⟨?_, ?_⟩
      · refine ⟨eX, rfl, fun j b hb => (BsR.own 15 rfl rfl rfl hgp).at_ hb, ?_⟩
        refine ⟨[12], _, Encode_ok _ (C := X) o3_4 (logR_own 11 12 o3_4 rfl rfl) ch3_4 hGX (by omega), ?_⟩
        rw [heX]
        rintro _ _ ⟨_, ⟨Aq, _, kq, _, rfl, rfl, rfl, rfl, hgq⟩, rfl⟩
        refine ⟨eX, rfl, fun j b hb => (BsR.own 16 rfl rfl rfl hgq).at_ hb, ?_⟩
        exact ⟨_, Ent.nil _, by show Value.bool (decide (eX = eX)) = _; rw [decide_eq_true rfl]⟩
      · refine ⟨[12], _, Encode_ok _ (C := X) o3_4 (logR_own 11 12 o3_4 rfl rfl) ch3_4 hGX (by omega), ?_⟩
        rw [heX]
        rintro _ _ ⟨_, ⟨Aq, _, kq, _, rfl, rfl, rfl, rfl, hgq⟩, rfl⟩
        refine ⟨?_, ?_⟩
        · refine ⟨eX, rfl, fun j b hb => (BsR.own 14 rfl rfl rfl hgp).at_ hb, ?_⟩
          refine ⟨eX, rfl, fun j b hb => (BsR.own 16 rfl rfl rfl hgq).at_ hb, ?_⟩
          exact ⟨_, Ent.nil _, by show Value.bool (decide (eX = eX)) = _; rw [decide_eq_true rfl]⟩
        · refine ⟨eX, rfl, fun j b hb => (BsR.own 16 rfl rfl rfl hgq).at_ hb, ?_⟩
          refine ⟨eX, rfl, fun j b hb => (BsR.own 14 rfl rfl rfl hgp).at_ hb, ?_⟩
          exact ⟨_, Ent.nil _, by show Value.bool (decide (eX = eX)) = _; rw [decide_eq_true rfl]⟩
    have hXYa := (agreesB_iff hGX).1 hXY
    have hGXY := hGX.merge hGY hXYa
    have hnXY := count_le_merge X Y
    have eq1 : mergeR X Y = (mergeC X Y, 0) := by rw [mergeR_small (by omega), if_pos hXY]
    have eq2 : mergeR Y X = (mergeC X Y, 0) := by rw [mergeR_small (by omega), if_pos (by rw [agreesB_comm]; exact hXY), mergeC_comm hGX hXY]
    obtain ⟨eXY, heXY⟩ : ∃ u, encL (flatC (mergeC X Y)) = u := ⟨_, rfl⟩
    refine ⟨[0], (.q 0 (.q 1 (.q 2 (.q 3 (.q 5 (.q 6 (.q 7 (.q 8 (.one 4 (.one 9 (.q 10 (.q 11 .nil)))))))))))), by kernel_rfl, ?_⟩
    refine ⟨by decide, by decide, ?_⟩
    refine ⟨_, ld 0 rfl rfl, ?_⟩
    refine ⟨by decide, by decide, ?_⟩
    refine ⟨_, ld 0 rfl rfl, ?_⟩
    refine ⟨by decide, by decide, ?_⟩
    refine ⟨_, ld 0 rfl rfl, ?_⟩
    refine ⟨by decide, by decide, ?_⟩
    refine ⟨_, ld 0 rfl rfl, ?_⟩
    refine ⟨[0, 0, 0, 0, 0, 0], _, Merge_ok _ (C := X) (D := Y) ⟨r0, t0, c0, o0, ch0, rfl⟩ ⟨r1, t1, c1, o1, ch1, rfl⟩ hGX hGY (by omega) (by omega), ?_⟩
    rw [eq1]
    rintro _ _ ⟨rfl, _, _, rfl, ⟨r0_1, t0_1, c0_1, o0_1, ch0_1, rfl⟩, ⟨r1_2, t1_2, c1_2, o1_2, ch1_2, rfl⟩⟩
    refine ⟨[6, 6, 6, 3, 3, 3], _, Merge_ok _ (C := Y) (D := X) ⟨r4, t4, c4, o4, ch4, rfl⟩ ⟨r3, t3, c3, o3, ch3, rfl⟩ hGY hGX (by omega) (by omega), ?_⟩
    rw [eq2]
    rintro _ _ ⟨rfl, _, _, rfl, ⟨r4_3, t4_3, c4_3, o4_3, ch4_3, rfl⟩, ⟨r3_4, t3_4, c3_4, o3_4, ch3_4, rfl⟩⟩
    repeat (first | (refine ⟨fun h => ?_, fun h => ?_⟩; rotate_left 1; (focus (exfalso; (first | (with_reducible (cases h; done)) | (revert h; simp; done) | (revert h; simp; omega) | (revert h; simp [*]; done)))); clear h) | (refine ⟨fun h => ?_, fun h => ?_⟩; (focus (exfalso; (first | (with_reducible (cases h; done)) | (revert h; simp; done) | (revert h; simp; omega) | (revert h; simp [*]; done)))); clear h))
    refine ⟨[0], .cut (.q 0 (.q 1 (.q 4 (.q 5 (.one 2 (.two 3 (.one 6 (.one 7 (.q 8 .nil))) 6 (.two 3 (.one 7 (.q 8 .nil)) 7 (.one 3 (.q 8 .nil))))))))), by kernel_rfl, ?_⟩
    show pickK [0] [(.blk g10 82 [.pointer (some ⟨G0, 0, .none⟩), .pointer (some ⟨G1, 0, .none⟩), .pointer (some ⟨G2, 0, .none⟩), .pointer (some ⟨G3, 0, .none⟩), .pointer (some ⟨G4, 0, .none⟩), .pointer (some ⟨G5, 0, .none⟩), .pointer (some ⟨G6, 0, .none⟩)] : HA), (.blk G2 161 [.map (some r2)] : HA), logM r2 t2 c2, (.rows (rowsOf t2) : HA), (.blk G0 161 [.map (some r0_1)] : HA), logM r0_1 t0_1 c0_1, (.rows (rowsOf t0_1) : HA), (.blk G1 161 [.map (some r1_2)] : HA), logM r1_2 t1_2 c1_2, (.rows (rowsOf t1_2) : HA), (.blk G4 161 [.map (some r4_3)] : HA), logM r4_3 t4_3 c4_3, (.rows (rowsOf t4_3) : HA), (.blk G3 161 [.map (some r3_4)] : HA), logM r3_4 t3_4 c3_4, (.rows (rowsOf t3_4) : HA)] _
    refine ⟨[none, none, none, none, none, none, none, none, none, none, none, none, none, none, none, none, none, none, none, none, none, none, none, none, none, none, none, none, none, none, none, none, none, none, none, none, none, none, none, none, none, none, none, none, none, none, none, none, none, none, none, none, none, none, none, none, none, none, none, none, none, none, none, none, none, none, none, none, none, none, none, none, none, none, none, none, none, none, none, none, none, none, none, none, none, none, none, none, none, none, none, none, none, none, none, none, none, none, none, none, none, none, none, some 103, some 104, some 105, some 106, some 107, some 108, some 109, some 110, some 111], [111], Unit, fun _ => True, fun _ => [.bool false], fun _ => [(.blk G0 161 [.map (some r0_1)] : HA), logM r0_1 t0_1 c0_1, (.rows (rowsOf t0_1) : HA), (.blk G1 161 [.map (some r1_2)] : HA), logM r1_2 t1_2 c1_2, (.rows (rowsOf t1_2) : HA), (.blk G2 161 [.map (some r2)] : HA), logM r2 t2 c2, (.rows (rowsOf t2) : HA), (.blk G3 161 [.map (some r3_4)] : HA), logM r3_4 t3_4 c3_4, (.rows (rowsOf t3_4) : HA)], ?_, ?_⟩
    · refine ⟨by decide, by decide, ?_⟩
      refine ⟨_, ld 0 rfl rfl, ?_⟩
      refine ⟨by decide, by decide, ?_⟩
      refine ⟨_, ld 0 rfl rfl, ?_⟩
      refine ⟨[4], _, Encode_ok _ (C := (mergeC X Y)) o0_1 (logR_own 3 4 o0_1 rfl rfl) ch0_1 hGXY (by omega), ?_⟩
      rw [heXY]
      rintro _ _ ⟨_, ⟨Ap, _, kp, _, rfl, rfl, rfl, rfl, hgp⟩, rfl⟩
      refine ⟨?_, ?_⟩
      · refine ⟨eXY, rfl, fun j b hb => (BsR.own 15 rfl rfl rfl hgp).at_ hb, ?_⟩
        refine ⟨[9], _, Encode_ok _ (C := (mergeC X Y)) o4_3 (logR_own 8 9 o4_3 rfl rfl) ch4_3 hGXY (by omega), ?_⟩
        rw [heXY]
        rintro _ _ ⟨_, ⟨Aq, _, kq, _, rfl, rfl, rfl, rfl, hgq⟩, rfl⟩
        refine ⟨eXY, rfl, fun j b hb => (BsR.own 16 rfl rfl rfl hgq).at_ hb, ?_⟩
        exact ⟨rfl, (), trivial, ⟨by show Value.bool (!decide (eXY = eXY)) = Value.bool false; rw [decide_eq_true rfl]; rfl, trivial⟩, Ent.pick [3, 12, 3, 3, 3, 3, 0, 0, 0, 2, 2, 2] rfl, rfl⟩
      · refine ⟨[9], _, Encode_ok _ (C := (mergeC X Y)) o4_3 (logR_own 8 9 o4_3 rfl rfl) ch4_3 hGXY (by omega), ?_⟩
        rw [heXY]
        rintro _ _ ⟨_, ⟨Aq, _, kq, _, rfl, rfl, rfl, rfl, hgq⟩, rfl⟩
        refine ⟨?_, ?_⟩
        · refine ⟨eXY, rfl, fun j b hb => (BsR.own 14 rfl rfl rfl hgp).at_ hb, ?_⟩
          refine ⟨eXY, rfl, fun j b hb => (BsR.own 16 rfl rfl rfl hgq).at_ hb, ?_⟩
          exact ⟨rfl, (), trivial, ⟨by show Value.bool (!decide (eXY = eXY)) = Value.bool false; rw [decide_eq_true rfl]; rfl, trivial⟩, Ent.pick [3, 12, 3, 3, 3, 3, 0, 0, 0, 2, 2, 2] rfl, rfl⟩
        · refine ⟨eXY, rfl, fun j b hb => (BsR.own 16 rfl rfl rfl hgq).at_ hb, ?_⟩
          refine ⟨eXY, rfl, fun j b hb => (BsR.own 14 rfl rfl rfl hgp).at_ hb, ?_⟩
          exact ⟨rfl, (), trivial, ⟨by show Value.bool (!decide (eXY = eXY)) = Value.bool false; rw [decide_eq_true rfl]; rfl, trivial⟩, Ent.pick [3, 12, 3, 3, 3, 3, 0, 0, 0, 2, 2, 2] rfl, rfl⟩
    rintro ⟨⟩ _ js2
    repeat (first | (refine ⟨fun h => ?_, fun h => ?_⟩; rotate_left 1; (focus (exfalso; (first | (with_reducible (cases h; done)) | (revert h; simp; done) | (revert h; simp; omega) | (revert h; simp [*]; done)))); clear h) | (refine ⟨fun h => ?_, fun h => ?_⟩; (focus (exfalso; (first | (with_reducible (cases h; done)) | (revert h; simp; done) | (revert h; simp; omega) | (revert h; simp [*]; done)))); clear h))
    have hmXYZ : mergeR (mergeC X Y) Z = if agreesB (mergeC X Y) Z = true then (mergeC (mergeC X Y) Z, 0) else (mergeC X Y, 13) := mergeR_small (by omega)
    have hmYZ : mergeR Y Z = if agreesB Y Z = true then (mergeC Y Z, 0) else (Y, 13) := mergeR_small (by omega)
    by_cases hYZ : agreesB Y Z = true
    case neg =>
      have hno : ¬ agreesB (mergeC X Y) Z = true := fun h => hYZ (agreesB_left hGX hGY hXY h)
      rw [if_neg hno] at hmXYZ
      rw [if_neg hYZ] at hmYZ
      refine ⟨by decide, by decide, _, ld 0 rfl rfl, ?_⟩
      refine ⟨by decide, by decide, _, ld 0 rfl rfl, ?_⟩
      refine ⟨[1, 1, 1, 4, 4, 4], _, Merge_ok _ (C := (mergeC X Y)) (D := Z) ⟨r0_1, t0_1, c0_1, o0_1, ch0_1, rfl⟩ ⟨r2, t2, c2, o2, ch2, rfl⟩ hGXY hGZ (by omega) (by omega), ?_⟩
      rw [hmXYZ]
      rintro _ _ ⟨rfl, _, _, rfl, ⟨r0_5, t0_5, c0_5, o0_5, ch0_5, rfl⟩, ⟨r2_6, t2_6, c2_6, o2_6, ch2_6, rfl⟩⟩
      refine ⟨by decide, by decide, _, ld 0 rfl rfl, ?_⟩
      refine ⟨by decide, by decide, _, ld 0 rfl rfl, ?_⟩
      refine ⟨[1, 1, 1, 7, 7, 7], _, Merge_ok _ (C := Y) (D := Z) ⟨r1_2, t1_2, c1_2, o1_2, ch1_2, rfl⟩ ⟨r2_6, t2_6, c2_6, o2_6, ch2_6, rfl⟩ hGY hGZ (by omega) (by omega), ?_⟩
      rw [hmYZ]
      rintro _ _ ⟨rfl, _, _, rfl, ⟨r1_7, t1_7, c1_7, o1_7, ch1_7, rfl⟩, ⟨r2_8, t2_8, c2_8, o2_8, ch2_8, rfl⟩⟩
      repeat (first | (refine ⟨fun h => ?_, fun h => ?_⟩; rotate_left 1; (focus (exfalso; (first | (with_reducible (cases h; done)) | (revert h; simp; done) | (revert h; simp; omega) | (revert h; simp [*]; done)))); clear h) | (refine ⟨fun h => ?_, fun h => ?_⟩; (focus (exfalso; (first | (with_reducible (cases h; done)) | (revert h; simp; done) | (revert h; simp; omega) | (revert h; simp [*]; done)))); clear h))
      exact ⟨_, Ent.nil _, rfl⟩
    rw [if_pos hYZ] at hmYZ
    have hYZa := (agreesB_iff hGY).1 hYZ
    have hGYZ := hGY.merge hGZ hYZa
    have hnYZ := count_le_merge Y Z
    have hboth := agreesB_both hGX hGY hXY hYZ
    have hmX : mergeR X (mergeC Y Z) = if agreesB X (mergeC Y Z) = true then (mergeC X (mergeC Y Z), 0) else (X, 13) := mergeR_small (by omega)
    by_cases hA : agreesB (mergeC X Y) Z = true
    case neg =>
      rw [if_neg hA] at hmXYZ
      rw [← hboth, if_neg hA] at hmX
      refine ⟨by decide, by decide, _, ld 0 rfl rfl, ?_⟩
      refine ⟨by decide, by decide, _, ld 0 rfl rfl, ?_⟩
      refine ⟨[1, 1, 1, 4, 4, 4], _, Merge_ok _ (C := (mergeC X Y)) (D := Z) ⟨r0_1, t0_1, c0_1, o0_1, ch0_1, rfl⟩ ⟨r2, t2, c2, o2, ch2, rfl⟩ hGXY hGZ (by omega) (by omega), ?_⟩
      rw [hmXYZ]
      rintro _ _ ⟨rfl, _, _, rfl, ⟨r0_5, t0_5, c0_5, o0_5, ch0_5, rfl⟩, ⟨r2_6, t2_6, c2_6, o2_6, ch2_6, rfl⟩⟩
      refine ⟨by decide, by decide, _, ld 0 rfl rfl, ?_⟩
      refine ⟨by decide, by decide, _, ld 0 rfl rfl, ?_⟩
      refine ⟨[1, 1, 1, 7, 7, 7], _, Merge_ok _ (C := Y) (D := Z) ⟨r1_2, t1_2, c1_2, o1_2, ch1_2, rfl⟩ ⟨r2_6, t2_6, c2_6, o2_6, ch2_6, rfl⟩ hGY hGZ (by omega) (by omega), ?_⟩
      rw [hmYZ]
      rintro _ _ ⟨rfl, _, _, rfl, ⟨r1_7, t1_7, c1_7, o1_7, ch1_7, rfl⟩, ⟨r2_8, t2_8, c2_8, o2_8, ch2_8, rfl⟩⟩
      repeat (first | (refine ⟨fun h => ?_, fun h => ?_⟩; rotate_left 1; (focus (exfalso; (first | (with_reducible (cases h; done)) | (revert h; simp; done) | (revert h; simp; omega) | (revert h; simp [*]; done)))); clear h) | (refine ⟨fun h => ?_, fun h => ?_⟩; (focus (exfalso; (first | (with_reducible (cases h; done)) | (revert h; simp; done) | (revert h; simp; omega) | (revert h; simp [*]; done)))); clear h))
      refine ⟨by decide, by decide, _, ld 0 rfl rfl, ?_⟩
      refine ⟨by decide, by decide, _, ld 0 rfl rfl, ?_⟩
      refine ⟨[1, 1, 1, 4, 4, 4], _, Merge_ok _ (C := X) (D := (mergeC Y Z)) ⟨r3_4, t3_4, c3_4, o3_4, ch3_4, rfl⟩ ⟨r1_7, t1_7, c1_7, o1_7, ch1_7, rfl⟩ hGX hGYZ (by omega) (by omega), ?_⟩
      rw [hmX]
      rintro _ _ ⟨rfl, _, _, rfl, ⟨r3_9, t3_9, c3_9, o3_9, ch3_9, rfl⟩, ⟨r1_10, t1_10, c1_10, o1_10, ch1_10, rfl⟩⟩
      repeat (first | (refine ⟨fun h => ?_, fun h => ?_⟩; rotate_left 1; (focus (exfalso; (first | (with_reducible (cases h; done)) | (revert h; simp; done) | (revert h; simp; omega) | (revert h; simp [*]; done)))); clear h) | (refine ⟨fun h => ?_, fun h => ?_⟩; (focus (exfalso; (first | (with_reducible (cases h; done)) | (revert h; simp; done) | (revert h; simp; omega) | (revert h; simp [*]; done)))); clear h))
      refine ⟨[0], (.q 0 (.q 1 (.q 2 (.q 3 (.q 4 (.q 7 (.q 8 (.one 5 (.two 6 (.one 9 (.one 10 (.q 11 (.q 12 (.q 13 .nil))))) 9 (.two 6 (.one 10 (.q 11 (.q 12 (.q 13 .nil)))) 10 (.one 6 (.q 11 (.q 12 (.q 13 .nil)))))))))))))), by kernel_rfl, ?_⟩
      repeat (first | (refine ⟨fun h => ?_, fun h => ?_⟩; rotate_left 1; (focus (exfalso; (first | (with_reducible (cases h; done)) | (revert h; simp; done) | (revert h; simp; omega) | (revert h; simp [*]; done)))); clear h) | (refine ⟨fun h => ?_, fun h => ?_⟩; (focus (exfalso; (first | (with_reducible (cases h; done)) | (revert h; simp; done) | (revert h; simp; omega) | (revert h; simp [*]; done)))); clear h))
      refine ⟨?_, ?_⟩
      · repeat (first | (refine ⟨fun h => ?_, fun h => ?_⟩; rotate_left 1; (focus (exfalso; (first | (with_reducible (cases h; done)) | (revert h; simp; done) | (revert h; simp; omega) | (revert h; simp [*]; done)))); clear h) | (refine ⟨fun h => ?_, fun h => ?_⟩; (focus (exfalso; (first | (with_reducible (cases h; done)) | (revert h; simp; done) | (revert h; simp; omega) | (revert h; simp [*]; done)))); clear h))
        exact ⟨_, Ent.nil _, rfl⟩
      · repeat (first | (refine ⟨fun h => ?_, fun h => ?_⟩; rotate_left 1; (focus (exfalso; (first | (with_reducible (cases h; done)) | (revert h; simp; done) | (revert h; simp; omega) | (revert h; simp [*]; done)))); clear h) | (refine ⟨fun h => ?_, fun h => ?_⟩; (focus (exfalso; (first | (with_reducible (cases h; done)) | (revert h; simp; done) | (revert h; simp; omega) | (revert h; simp [*]; done)))); clear h))
        refine ⟨?_, ?_⟩
        · repeat (first | (refine ⟨fun h => ?_, fun h => ?_⟩; rotate_left 1; (focus (exfalso; (first | (with_reducible (cases h; done)) | (revert h; simp; done) | (revert h; simp; omega) | (revert h; simp [*]; done)))); clear h) | (refine ⟨fun h => ?_, fun h => ?_⟩; (focus (exfalso; (first | (with_reducible (cases h; done)) | (revert h; simp; done) | (revert h; simp; omega) | (revert h; simp [*]; done)))); clear h))
          exact ⟨_, Ent.nil _, rfl⟩
        · repeat (first | (refine ⟨fun h => ?_, fun h => ?_⟩; rotate_left 1; (focus (exfalso; (first | (with_reducible (cases h; done)) | (revert h; simp; done) | (revert h; simp; omega) | (revert h; simp [*]; done)))); clear h) | (refine ⟨fun h => ?_, fun h => ?_⟩; (focus (exfalso; (first | (with_reducible (cases h; done)) | (revert h; simp; done) | (revert h; simp; omega) | (revert h; simp [*]; done)))); clear h))
          exact ⟨_, Ent.nil _, rfl⟩
    have hAa := (agreesB_iff hGXY).1 hA
    have hGXYZ := hGXY.merge hGZ hAa
    have hnXYZ := count_le_merge (mergeC X Y) Z
    have hA2 : agreesB X (mergeC Y Z) = true := by rw [← hboth]; exact hA
    have hGX_YZ : GoodC (mergeC X (mergeC Y Z)) := by rw [← mergeC_assoc]; exact hGXYZ
    have hnX_YZ := count_le_merge X (mergeC Y Z)
    obtain ⟨eXYZ, heXYZ⟩ : ∃ u, encL (flatC (mergeC (mergeC X Y) Z)) = u := ⟨_, rfl⟩
    have heXa : encL (flatC (mergeC X (mergeC Y Z))) = eXYZ := by rw [← mergeC_assoc]; exact heXYZ
    rw [if_pos hA] at hmXYZ
    rw [if_pos hA2] at hmX
    refine ⟨by decide, by decide, _, ld 0 rfl rfl, ?_⟩
    refine ⟨by decide, by decide, _, ld 0 rfl rfl, ?_⟩
    refine ⟨[1, 1, 1, 4, 4, 4], _, Merge_ok _ (C := (mergeC X Y)) (D := Z) ⟨r0_1, t0_1, c0_1, o0_1, ch0_1, rfl⟩ ⟨r2, t2, c2, o2, ch2, rfl⟩ hGXY hGZ (by omega) (by omega), ?_⟩
    rw [hmXYZ]
    rintro _ _ ⟨rfl, _, _, rfl, ⟨r0_5, t0_5, c0_5, o0_5, ch0_5, rfl⟩, ⟨r2_6, t2_6, c2_6, o2_6, ch2_6, rfl⟩⟩
    refine ⟨by decide, by decide, _, ld 0 rfl rfl, ?_⟩
    refine ⟨by decide, by decide, _, ld 0 rfl rfl, ?_⟩
    refine ⟨[1, 1, 1, 7, 7, 7], _, Merge_ok _ (C := Y) (D := Z) ⟨r1_2, t1_2, c1_2, o1_2, ch1_2, rfl⟩ ⟨r2_6, t2_6, c2_6, o2_6, ch2_6, rfl⟩ hGY hGZ (by omega) (by omega), ?_⟩
    rw [hmYZ]
    rintro _ _ ⟨rfl, _, _, rfl, ⟨r1_7, t1_7, c1_7, o1_7, ch1_7, rfl⟩, ⟨r2_8, t2_8, c2_8, o2_8, ch2_8, rfl⟩⟩
    repeat (first | (refine ⟨fun h => ?_, fun h => ?_⟩; rotate_left 1; (focus (exfalso; (first | (with_reducible (cases h; done)) | (revert h; simp; done) | (revert h; simp; omega) | (revert h; simp [*]; done)))); clear h) | (refine ⟨fun h => ?_, fun h => ?_⟩; (focus (exfalso; (first | (with_reducible (cases h; done)) | (revert h; simp; done) | (revert h; simp; omega) | (revert h; simp [*]; done)))); clear h))
    refine ⟨by decide, by decide, _, ld 0 rfl rfl, ?_⟩
    refine ⟨by decide, by decide, _, ld 0 rfl rfl, ?_⟩
    refine ⟨[1, 1, 1, 4, 4, 4], _, Merge_ok _ (C := X) (D := (mergeC Y Z)) ⟨r3_4, t3_4, c3_4, o3_4, ch3_4, rfl⟩ ⟨r1_7, t1_7, c1_7, o1_7, ch1_7, rfl⟩ hGX hGYZ (by omega) (by omega), ?_⟩
    rw [hmX]
    rintro _ _ ⟨rfl, _, _, rfl, ⟨r3_9, t3_9, c3_9, o3_9, ch3_9, rfl⟩, ⟨r1_10, t1_10, c1_10, o1_10, ch1_10, rfl⟩⟩
    repeat (first | (refine ⟨fun h => ?_, fun h => ?_⟩; rotate_left 1; (focus (exfalso; (first | (with_reducible (cases h; done)) | (revert h; simp; done) | (revert h; simp; omega) | (revert h; simp [*]; done)))); clear h) | (refine ⟨fun h => ?_, fun h => ?_⟩; (focus (exfalso; (first | (with_reducible (cases h; done)) | (revert h; simp; done) | (revert h; simp; omega) | (revert h; simp [*]; done)))); clear h))
    refine ⟨[0], (.q 0 (.q 1 (.q 2 (.q 3 (.q 4 (.q 7 (.q 8 (.one 5 (.two 6 (.one 9 (.one 10 (.q 11 (.q 12 (.q 13 .nil))))) 9 (.two 6 (.one 10 (.q 11 (.q 12 (.q 13 .nil)))) 10 (.one 6 (.q 11 (.q 12 (.q 13 .nil)))))))))))))), by kernel_rfl, ?_⟩
    repeat (first | (refine ⟨fun h => ?_, fun h => ?_⟩; rotate_left 1; (focus (exfalso; (first | (with_reducible (cases h; done)) | (revert h; simp; done) | (revert h; simp; omega) | (revert h; simp [*]; done)))); clear h) | (refine ⟨fun h => ?_, fun h => ?_⟩; (focus (exfalso; (first | (with_reducible (cases h; done)) | (revert h; simp; done) | (revert h; simp; omega) | (revert h; simp [*]; done)))); clear h))
    refine ⟨by decide, by decide, ?_⟩
    repeat (first | (refine ⟨fun h => ?_, fun h => ?_⟩; rotate_left 1; (focus (exfalso; (first | (with_reducible (cases h; done)) | (revert h; simp; done) | (revert h; simp; omega) | (revert h; simp [*]; done)))); clear h) | (refine ⟨fun h => ?_, fun h => ?_⟩; (focus (exfalso; (first | (with_reducible (cases h; done)) | (revert h; simp; done) | (revert h; simp; omega) | (revert h; simp [*]; done)))); clear h))
    refine ⟨_, ld 0 rfl rfl, ?_⟩
    repeat (first | (refine ⟨fun h => ?_, fun h => ?_⟩; rotate_left 1; (focus (exfalso; (first | (with_reducible (cases h; done)) | (revert h; simp; done) | (revert h; simp; omega) | (revert h; simp [*]; done)))); clear h) | (refine ⟨fun h => ?_, fun h => ?_⟩; (focus (exfalso; (first | (with_reducible (cases h; done)) | (revert h; simp; done) | (revert h; simp; omega) | (revert h; simp [*]; done)))); clear h))
    refine ⟨by decide, by decide, ?_⟩
    repeat (first | (refine ⟨fun h => ?_, fun h => ?_⟩; rotate_left 1; (focus (exfalso; (first | (with_reducible (cases h; done)) | (revert h; simp; done) | (revert h; simp; omega) | (revert h; simp [*]; done)))); clear h) | (refine ⟨fun h => ?_, fun h => ?_⟩; (focus (exfalso; (first | (with_reducible (cases h; done)) | (revert h; simp; done) | (revert h; simp; omega) | (revert h; simp [*]; done)))); clear h))
    refine ⟨_, ld 0 rfl rfl, ?_⟩
    repeat (first | (refine ⟨fun h => ?_, fun h => ?_⟩; rotate_left 1; (focus (exfalso; (first | (with_reducible (cases h; done)) | (revert h; simp; done) | (revert h; simp; omega) | (revert h; simp [*]; done)))); clear h) | (refine ⟨fun h => ?_, fun h => ?_⟩; (focus (exfalso; (first | (with_reducible (cases h; done)) | (revert h; simp; done) | (revert h; simp; omega) | (revert h; simp [*]; done)))); clear h))
    refine ⟨[1], _, Encode_ok _ (C := (mergeC (mergeC X Y) Z)) o0_5 (logR_own 0 1 o0_5 rfl rfl) ch0_5 hGXYZ (by omega), ?_⟩
    rw [heXYZ]
    rintro _ _ ⟨_, ⟨Ap, _, kp, _, rfl, rfl, rfl, rfl, hgp⟩, rfl⟩
    repeat (first | (refine ⟨fun h => ?_, fun h => ?_⟩; rotate_left 1; (focus (exfalso; (first | (with_reducible (cases h; done)) | (revert h; simp; done) | (revert h; simp; omega) | (revert h; simp [*]; done)))); clear h) | (refine ⟨fun h => ?_, fun h => ?_⟩; (focus (exfalso; (first | (with_reducible (cases h; done)) | (revert h; simp; done) | (revert h; simp; omega) | (revert h; simp [*]; done)))); clear h))
    refine ⟨?_, ?_⟩
    · repeat (first | (refine ⟨fun h => ?_, fun h => ?_⟩; rotate_left 1; (focus (exfalso; (first | (with_reducible (cases h; done)) | (revert h; simp; done) | (revert h; simp; omega) | (revert h; simp [*]; done)))); clear h) | (refine ⟨fun h => ?_, fun h => ?_⟩; (focus (exfalso; (first | (with_reducible (cases h; done)) | (revert h; simp; done) | (revert h; simp; omega) | (revert h; simp [*]; done)))); clear h))
      refine ⟨eXYZ, rfl, fun j b hb => (BsR.own 12 rfl rfl rfl hgp).at_ hb, ?_⟩
      repeat (first | (refine ⟨fun h => ?_, fun h => ?_⟩; rotate_left 1; (focus (exfalso; (first | (with_reducible (cases h; done)) | (revert h; simp; done) | (revert h; simp; omega) | (revert h; simp [*]; done)))); clear h) | (refine ⟨fun h => ?_, fun h => ?_⟩; (focus (exfalso; (first | (with_reducible (cases h; done)) | (revert h; simp; done) | (revert h; simp; omega) | (revert h; simp [*]; done)))); clear h))
      refine ⟨[6], _, Encode_ok _ (C := (mergeC X (mergeC Y Z))) o3_9 (logR_own 5 6 o3_9 rfl rfl) ch3_9 hGX_YZ (by omega), ?_⟩
      rw [heXa]
      rintro _ _ ⟨_, ⟨Aq, _, kq, _, rfl, rfl, rfl, rfl, hgq⟩, rfl⟩
      repeat (first | (refine ⟨fun h => ?_, fun h => ?_⟩; rotate_left 1; (focus (exfalso; (first | (with_reducible (cases h; done)) | (revert h; simp; done) | (revert h; simp; omega) | (revert h; simp [*]; done)))); clear h) | (refine ⟨fun h => ?_, fun h => ?_⟩; (focus (exfalso; (first | (with_reducible (cases h; done)) | (revert h; simp; done) | (revert h; simp; omega) | (revert h; simp [*]; done)))); clear h))
      refine ⟨eXYZ, rfl, fun j b hb => (BsR.own 13 rfl rfl rfl hgq).at_ hb, ?_⟩
      repeat (first | (refine ⟨fun h => ?_, fun h => ?_⟩; rotate_left 1; (focus (exfalso; (first | (with_reducible (cases h; done)) | (revert h; simp; done) | (revert h; simp; omega) | (revert h; simp [*]; done)))); clear h) | (refine ⟨fun h => ?_, fun h => ?_⟩; (focus (exfalso; (first | (with_reducible (cases h; done)) | (revert h; simp; done) | (revert h; simp; omega) | (revert h; simp [*]; done)))); clear h))
      exact ⟨_, Ent.nil _, by show Value.bool (decide (eXYZ = eXYZ)) = _; rw [decide_eq_true rfl]⟩
    · repeat (first | (refine ⟨fun h => ?_, fun h => ?_⟩; rotate_left 1; (focus (exfalso; (first | (with_reducible (cases h; done)) | (revert h; simp; done) | (revert h; simp; omega) | (revert h; simp [*]; done)))); clear h) | (refine ⟨fun h => ?_, fun h => ?_⟩; (focus (exfalso; (first | (with_reducible (cases h; done)) | (revert h; simp; done) | (revert h; simp; omega) | (revert h; simp [*]; done)))); clear h))
      refine ⟨[6], _, Encode_ok _ (C := (mergeC X (mergeC Y Z))) o3_9 (logR_own 5 6 o3_9 rfl rfl) ch3_9 hGX_YZ (by omega), ?_⟩
      rw [heXa]
      rintro _ _ ⟨_, ⟨Aq, _, kq, _, rfl, rfl, rfl, rfl, hgq⟩, rfl⟩
      repeat (first | (refine ⟨fun h => ?_, fun h => ?_⟩; rotate_left 1; (focus (exfalso; (first | (with_reducible (cases h; done)) | (revert h; simp; done) | (revert h; simp; omega) | (revert h; simp [*]; done)))); clear h) | (refine ⟨fun h => ?_, fun h => ?_⟩; (focus (exfalso; (first | (with_reducible (cases h; done)) | (revert h; simp; done) | (revert h; simp; omega) | (revert h; simp [*]; done)))); clear h))
      refine ⟨?_, ?_⟩
      · repeat (first | (refine ⟨fun h => ?_, fun h => ?_⟩; rotate_left 1; (focus (exfalso; (first | (with_reducible (cases h; done)) | (revert h; simp; done) | (revert h; simp; omega) | (revert h; simp [*]; done)))); clear h) | (refine ⟨fun h => ?_, fun h => ?_⟩; (focus (exfalso; (first | (with_reducible (cases h; done)) | (revert h; simp; done) | (revert h; simp; omega) | (revert h; simp [*]; done)))); clear h))
        refine ⟨eXYZ, rfl, fun j b hb => (BsR.own 11 rfl rfl rfl hgp).at_ hb, ?_⟩
        repeat (first | (refine ⟨fun h => ?_, fun h => ?_⟩; rotate_left 1; (focus (exfalso; (first | (with_reducible (cases h; done)) | (revert h; simp; done) | (revert h; simp; omega) | (revert h; simp [*]; done)))); clear h) | (refine ⟨fun h => ?_, fun h => ?_⟩; (focus (exfalso; (first | (with_reducible (cases h; done)) | (revert h; simp; done) | (revert h; simp; omega) | (revert h; simp [*]; done)))); clear h))
        refine ⟨eXYZ, rfl, fun j b hb => (BsR.own 13 rfl rfl rfl hgq).at_ hb, ?_⟩
        repeat (first | (refine ⟨fun h => ?_, fun h => ?_⟩; rotate_left 1; (focus (exfalso; (first | (with_reducible (cases h; done)) | (revert h; simp; done) | (revert h; simp; omega) | (revert h; simp [*]; done)))); clear h) | (refine ⟨fun h => ?_, fun h => ?_⟩; (focus (exfalso; (first | (with_reducible (cases h; done)) | (revert h; simp; done) | (revert h; simp; omega) | (revert h; simp [*]; done)))); clear h))
        exact ⟨_, Ent.nil _, by show Value.bool (decide (eXYZ = eXYZ)) = _; rw [decide_eq_true rfl]⟩
      · repeat (first | (refine ⟨fun h => ?_, fun h => ?_⟩; rotate_left 1; (focus (exfalso; (first | (with_reducible (cases h; done)) | (revert h; simp; done) | (revert h; simp; omega) | (revert h; simp [*]; done)))); clear h) | (refine ⟨fun h => ?_, fun h => ?_⟩; (focus (exfalso; (first | (with_reducible (cases h; done)) | (revert h; simp; done) | (revert h; simp; omega) | (revert h; simp [*]; done)))); clear h))
        refine ⟨eXYZ, rfl, fun j b hb => (BsR.own 13 rfl rfl rfl hgq).at_ hb, ?_⟩
        repeat (first | (refine ⟨fun h => ?_, fun h => ?_⟩; rotate_left 1; (focus (exfalso; (first | (with_reducible (cases h; done)) | (revert h; simp; done) | (revert h; simp; omega) | (revert h; simp [*]; done)))); clear h) | (refine ⟨fun h => ?_, fun h => ?_⟩; (focus (exfalso; (first | (with_reducible (cases h; done)) | (revert h; simp; done) | (revert h; simp; omega) | (revert h; simp [*]; done)))); clear h))
        refine ⟨eXYZ, rfl, fun j b hb => (BsR.own 11 rfl rfl rfl hgp).at_ hb, ?_⟩
        repeat (first | (refine ⟨fun h => ?_, fun h => ?_⟩; rotate_left 1; (focus (exfalso; (first | (with_reducible (cases h; done)) | (revert h; simp; done) | (revert h; simp; omega) | (revert h; simp [*]; done)))); clear h) | (refine ⟨fun h => ?_, fun h => ?_⟩; (focus (exfalso; (first | (with_reducible (cases h; done)) | (revert h; simp; done) | (revert h; simp; omega) | (revert h; simp [*]; done)))); clear h))
        exact ⟨_, Ent.nil _, by show Value.bool (decide (eXYZ = eXYZ)) = _; rw [decide_eq_true rfl]⟩
--ENDTAIL

end Go.Proofs.YtoddabjacjkjbaaDoor
