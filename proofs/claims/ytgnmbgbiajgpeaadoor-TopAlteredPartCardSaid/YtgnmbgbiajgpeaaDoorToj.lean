/-
  Top: the contracts of a15Name, a15Collides, a15SamePiece and a15Lists.
-/
import Derived.Test.YtgnmbgbiajgpeaaDoorToi
namespace Go.Proofs.YtgnmbgbiajgpeaaDoor
open Go Go.RowKit
set_option linter.unusedVariables false
set_option linter.unusedSimpArgs false

def nm15 (x y : UInt8) : Str := x :: y :: List.replicate 30 0
set_option maxRecDepth 100000 in
theorem Name15_ok (R : Rd) (x y : UInt8) : Fn Tryd.prog 7 [.int .u8 x.toNat, .int .u8 y.toNat] [] R (fun v h => v = .string ⟨⟨nm15 x y⟩⟩ ∧ h = []) := by
  refine fn_of_vc mixed tabOk Tryd.func7 rfl (by kernel_rfl) (Nat.le_of_ble_eq_true rfl) ?_
  refine ⟨by omega, by omega, by decide, by decide, fun g => ?_⟩
  refine ⟨by decide, by decide, _, rfl, ?_⟩
  refine ⟨rfl, rfl, 0, rfl, rfl, Nat.le_of_ble_eq_true rfl, ?_⟩
  refine ⟨by decide, by decide, _, rfl, ?_⟩
  refine ⟨rfl, rfl, 0, rfl, rfl, Nat.le_of_ble_eq_true rfl, ?_⟩
  refine ⟨nm15 x y, rfl, fun j b hb => ?_, ?_⟩
  · refine BsR.at_ (n := 32) (cap := 32) (l := nm15 x y) ?_ hb
    exact BsR.own 0 rfl rfl rfl (.inr ⟨g, rfl⟩)
  exact ⟨_, Ent.drop [] [_], rfl, rfl⟩

theorem cat15 (a : Str) : cat [a] = a := by simp [cat]
set_option maxRecDepth 100000 in
theorem Collides15_ok (R : Rd) (hG : ShaG R) (a b : Str) (ha : a.length ≤ 1000000000) (hb : b.length ≤ 1000000000) : Fn Tryd.prog 13 [.string ⟨⟨a⟩⟩, .string ⟨⟨b⟩⟩] [] R (fun v h => v = .bool (decide (a ≠ b ∧ sha a = sha b)) ∧ h = []) := by
  refine fn_of_vc mixed tabOk Tryd.func13 rfl (by kernel_rfl) (Nat.le_of_ble_eq_true rfl) ?_
  by_cases c : a = b
  · repeat (first | (refine ⟨fun h => ?_, fun h => ?_⟩; rotate_left 1; (focus (exfalso; (first | (with_reducible (cases h; done)) | (revert h; simp; done) | (revert h; simp; omega) | (revert h; simp [*]; done)))); clear h) | (refine ⟨fun h => ?_, fun h => ?_⟩; (focus (exfalso; (first | (with_reducible (cases h; done)) | (revert h; simp; done) | (revert h; simp; omega) | (revert h; simp [*]; done)))); clear h))
    exact ⟨_, Ent.nil _, no_D rfl (fun h => h.1 c), rfl⟩
  · repeat (first | (refine ⟨fun h => ?_, fun h => ?_⟩; rotate_left 1; (focus (exfalso; (first | (with_reducible (cases h; done)) | (revert h; simp; done) | (revert h; simp; omega) | (revert h; simp [*]; done)))); clear h) | (refine ⟨fun h => ?_, fun h => ?_⟩; (focus (exfalso; (first | (with_reducible (cases h; done)) | (revert h; simp; done) | (revert h; simp; omega) | (revert h; simp [*]; done)))); clear h))
    refine ⟨rfl, fun g => ?_⟩
    repeat (first | (refine ⟨fun h => ?_, fun h => ?_⟩; rotate_left 1; (focus (exfalso; (first | (with_reducible (cases h; done)) | (revert h; simp; done) | (revert h; simp; omega) | (revert h; simp [*]; done)))); clear h) | (refine ⟨fun h => ?_, fun h => ?_⟩; (focus (exfalso; (first | (with_reducible (cases h; done)) | (revert h; simp; done) | (revert h; simp; omega) | (revert h; simp [*]; done)))); clear h))
    refine ⟨[], _, Join_ok _ (hG.rh _) [a] (some ⟨g, 0, .none⟩) 1 (by rw [cat15]; omega) (by show 1 ≤ _; omega) (SlR.own 0 rfl rfl (.inr ⟨g, rfl⟩)), ?_⟩
    rintro _ _ ⟨rfl, rfl⟩
    rw [cat15]
    repeat (first | (refine ⟨fun h => ?_, fun h => ?_⟩; rotate_left 1; (focus (exfalso; (first | (with_reducible (cases h; done)) | (revert h; simp; done) | (revert h; simp; omega) | (revert h; simp [*]; done)))); clear h) | (refine ⟨fun h => ?_, fun h => ?_⟩; (focus (exfalso; (first | (with_reducible (cases h; done)) | (revert h; simp; done) | (revert h; simp; omega) | (revert h; simp [*]; done)))); clear h))
    refine ⟨rfl, fun g2 => ?_⟩
    repeat (first | (refine ⟨fun h => ?_, fun h => ?_⟩; rotate_left 1; (focus (exfalso; (first | (with_reducible (cases h; done)) | (revert h; simp; done) | (revert h; simp; omega) | (revert h; simp [*]; done)))); clear h) | (refine ⟨fun h => ?_, fun h => ?_⟩; (focus (exfalso; (first | (with_reducible (cases h; done)) | (revert h; simp; done) | (revert h; simp; omega) | (revert h; simp [*]; done)))); clear h))
    refine ⟨[], _, Join_ok _ (hG.rh _) [b] (some ⟨g2, 0, .none⟩) 1 (by rw [cat15]; omega) (by show 1 ≤ _; omega) (SlR.own 1 rfl rfl (.inr ⟨g2, rfl⟩)), ?_⟩
    rintro _ _ ⟨rfl, rfl⟩
    rw [cat15]
    generalize sha a = sa
    generalize sha b = sb
    repeat (first | (refine ⟨fun h => ?_, fun h => ?_⟩; rotate_left 1; (focus (exfalso; (first | (with_reducible (cases h; done)) | (revert h; simp; done) | (revert h; simp; omega) | (revert h; simp [*]; done)))); clear h) | (refine ⟨fun h => ?_, fun h => ?_⟩; (focus (exfalso; (first | (with_reducible (cases h; done)) | (revert h; simp; done) | (revert h; simp; omega) | (revert h; simp [*]; done)))); clear h))
    by_cases d : sa = sb
    · exact ⟨_, Ent.drop [] [_, _], yes_D (decide_eq_true d) ⟨c, d⟩, rfl⟩
    · exact ⟨_, Ent.drop [] [_, _], no_D (decide_eq_false d) (fun h => d h.2), rfl⟩

theorem id15 {e : Bool} {s t : Str} {i j : Int} (he : e = true ↔ ([.string ⟨⟨s⟩⟩, .int .i64 i] : List Value) = [.string ⟨⟨t⟩⟩, .int .i64 j]) : e = decide (s = t ∧ i = j) := by
  rw [Bool.eq_iff_iff, he, decide_eq_true_iff]
  simp only [List.cons.injEq, Value.string.injEq, Value.int.injEq, ByteArray.mk.injEq, Array.mk.injEq, true_and, and_true]
def sameP (p q : Pc) : Prop := (p.st = q.st ∧ p.ix = q.ix) ∧ p.dt = q.dt ∧ p.sums = q.sums
instance instDecSameP (p q : Pc) : Decidable (sameP p q) := by unfold sameP; exact inferInstance
set_option maxRecDepth 100000 in
set_option maxHeartbeats 2000000 in
theorem Same15_ok (R : Rd) (p q : Pc) (D S D2 S2 : Value) (hn : p.sums.length ≤ 1000000) (hd : Bs R D p.dt) (hs : Ss R S p.sums) (hd2 : Bs R D2 q.dt) (hs2 : Ss R S2 q.sums) :
    Fn Tryd.prog 10 [.agg ⟨pcC p D S⟩, .agg ⟨pcC q D2 S2⟩] [] R (fun v h => v = .bool (decide (sameP p q)) ∧ h = []) := by
  obtain ⟨A, cap, rfl, hc, hdr⟩ := hd
  obtain ⟨A2, cap2, rfl, hc2, hdr2⟩ := hd2
  obtain ⟨B, bc, rfl, hbc, hs⟩ := hs
  obtain ⟨B2, bc2, rfl, hbc2, hs2⟩ := hs2
  refine fn_of_vc mixed tabOk Tryd.func10 rfl (by kernel_rfl) (Nat.le_of_ble_eq_true rfl) ?_
  intro g1 g2
  refine ⟨_, rdOff (o := 0) (n := 2) 0 rfl rfl, rfl, ?_⟩
  refine ⟨_, rdOff (o := 0) (n := 2) 1 rfl rfl, rfl, ?_⟩
  intro e he
  obtain rfl := id15 (s := p.st) (t := q.st) (i := p.ix) (j := q.ix) he
  clear he
  by_cases c1 : p.st = q.st ∧ p.ix = q.ix
  case neg =>
    rw [decide_eq_false c1]
    repeat (first | (refine ⟨fun h => ?_, fun h => ?_⟩; rotate_left 1; (focus (exfalso; (first | (with_reducible (cases h; done)) | (revert h; simp; done) | (revert h; simp; omega) | (revert h; simp [*]; done)))); clear h) | (refine ⟨fun h => ?_, fun h => ?_⟩; (focus (exfalso; (first | (with_reducible (cases h; done)) | (revert h; simp; done) | (revert h; simp; omega) | (revert h; simp [*]; done)))); clear h))
    exact ⟨_, Ent.nil _, no_D rfl (fun h => c1 h.1), rfl⟩
  rw [decide_eq_true c1]
  repeat (first | (refine ⟨fun h => ?_, fun h => ?_⟩; rotate_left 1; (focus (exfalso; (first | (with_reducible (cases h; done)) | (revert h; simp; done) | (revert h; simp; omega) | (revert h; simp [*]; done)))); clear h) | (refine ⟨fun h => ?_, fun h => ?_⟩; (focus (exfalso; (first | (with_reducible (cases h; done)) | (revert h; simp; done) | (revert h; simp; omega) | (revert h; simp [*]; done)))); clear h))
  refine ⟨_, ld 0 rfl rfl, ?_⟩
  repeat (first | (refine ⟨fun h => ?_, fun h => ?_⟩; rotate_left 1; (focus (exfalso; (first | (with_reducible (cases h; done)) | (revert h; simp; done) | (revert h; simp; omega) | (revert h; simp [*]; done)))); clear h) | (refine ⟨fun h => ?_, fun h => ?_⟩; (focus (exfalso; (first | (with_reducible (cases h; done)) | (revert h; simp; done) | (revert h; simp; omega) | (revert h; simp [*]; done)))); clear h))
  refine ⟨p.dt, rfl, fun j b hb => (hdr.rh _).at_ hb, ?_⟩
  repeat (first | (refine ⟨fun h => ?_, fun h => ?_⟩; rotate_left 1; (focus (exfalso; (first | (with_reducible (cases h; done)) | (revert h; simp; done) | (revert h; simp; omega) | (revert h; simp [*]; done)))); clear h) | (refine ⟨fun h => ?_, fun h => ?_⟩; (focus (exfalso; (first | (with_reducible (cases h; done)) | (revert h; simp; done) | (revert h; simp; omega) | (revert h; simp [*]; done)))); clear h))
  refine ⟨_, ld 1 rfl rfl, ?_⟩
  repeat (first | (refine ⟨fun h => ?_, fun h => ?_⟩; rotate_left 1; (focus (exfalso; (first | (with_reducible (cases h; done)) | (revert h; simp; done) | (revert h; simp; omega) | (revert h; simp [*]; done)))); clear h) | (refine ⟨fun h => ?_, fun h => ?_⟩; (focus (exfalso; (first | (with_reducible (cases h; done)) | (revert h; simp; done) | (revert h; simp; omega) | (revert h; simp [*]; done)))); clear h))
  refine ⟨q.dt, rfl, fun j b hb => (hdr2.rh _).at_ hb, ?_⟩
  repeat (first | (refine ⟨fun h => ?_, fun h => ?_⟩; rotate_left 1; (focus (exfalso; (first | (with_reducible (cases h; done)) | (revert h; simp; done) | (revert h; simp; omega) | (revert h; simp [*]; done)))); clear h) | (refine ⟨fun h => ?_, fun h => ?_⟩; (focus (exfalso; (first | (with_reducible (cases h; done)) | (revert h; simp; done) | (revert h; simp; omega) | (revert h; simp [*]; done)))); clear h))
  by_cases c2 : p.dt = q.dt
  case neg =>
    repeat (first | (refine ⟨fun h => ?_, fun h => ?_⟩; rotate_left 1; (focus (exfalso; (first | (with_reducible (cases h; done)) | (revert h; simp; done) | (revert h; simp; omega) | (revert h; simp [*]; done)))); clear h) | (refine ⟨fun h => ?_, fun h => ?_⟩; (focus (exfalso; (first | (with_reducible (cases h; done)) | (revert h; simp; done) | (revert h; simp; omega) | (revert h; simp [*]; done)))); clear h))
    exact ⟨_, Ent.nil _, no_D rfl (fun h => c2 h.2.1), rfl⟩
  repeat (first | (refine ⟨fun h => ?_, fun h => ?_⟩; rotate_left 1; (focus (exfalso; (first | (with_reducible (cases h; done)) | (revert h; simp; done) | (revert h; simp; omega) | (revert h; simp [*]; done)))); clear h) | (refine ⟨fun h => ?_, fun h => ?_⟩; (focus (exfalso; (first | (with_reducible (cases h; done)) | (revert h; simp; done) | (revert h; simp; omega) | (revert h; simp [*]; done)))); clear h))
  refine ⟨_, ld 0 rfl rfl, ?_⟩
  repeat (first | (refine ⟨fun h => ?_, fun h => ?_⟩; rotate_left 1; (focus (exfalso; (first | (with_reducible (cases h; done)) | (revert h; simp; done) | (revert h; simp; omega) | (revert h; simp [*]; done)))); clear h) | (refine ⟨fun h => ?_, fun h => ?_⟩; (focus (exfalso; (first | (with_reducible (cases h; done)) | (revert h; simp; done) | (revert h; simp; omega) | (revert h; simp [*]; done)))); clear h))
  refine ⟨_, ld 1 rfl rfl, ?_⟩
  repeat (first | (refine ⟨fun h => ?_, fun h => ?_⟩; rotate_left 1; (focus (exfalso; (first | (with_reducible (cases h; done)) | (revert h; simp; done) | (revert h; simp; omega) | (revert h; simp [*]; done)))); clear h) | (refine ⟨fun h => ?_, fun h => ?_⟩; (focus (exfalso; (first | (with_reducible (cases h; done)) | (revert h; simp; done) | (revert h; simp; omega) | (revert h; simp [*]; done)))); clear h))
  by_cases c3 : (p.sums.length : Int) = q.sums.length
  case neg =>
    repeat (first | (refine ⟨fun h => ?_, fun h => ?_⟩; rotate_left 1; (focus (exfalso; (first | (with_reducible (cases h; done)) | (revert h; simp; done) | (revert h; simp; omega) | (revert h; simp [*]; done)))); clear h) | (refine ⟨fun h => ?_, fun h => ?_⟩; (focus (exfalso; (first | (with_reducible (cases h; done)) | (revert h; simp; done) | (revert h; simp; omega) | (revert h; simp [*]; done)))); clear h))
    exact ⟨_, Ent.nil _, no_D rfl (fun h => c3 (by rw [h.2.2])), rfl⟩
  repeat (first | (refine ⟨fun h => ?_, fun h => ?_⟩; rotate_left 1; (focus (exfalso; (first | (with_reducible (cases h; done)) | (revert h; simp; done) | (revert h; simp; omega) | (revert h; simp [*]; done)))); clear h) | (refine ⟨fun h => ?_, fun h => ?_⟩; (focus (exfalso; (first | (with_reducible (cases h; done)) | (revert h; simp; done) | (revert h; simp; omega) | (revert h; simp [*]; done)))); clear h))
  have c3' : p.sums.length = q.sums.length := by omega
  refine ⟨_, ld 0 rfl rfl, ?_⟩
  refine ⟨[none, none, none, none, some 4, some 5, none, none, none, none, none, none, none, none, none, none, none, none, none, none, none, none, none, none, none, none, none, none, none, none, none, none, some 32, some 33, some 34, some 35, some 36, some 37, some 38, some 39, some 40, some 41, some 42, some 43, some 44, some 45, some 46], [32], Nat, fun i => i ≤ p.sums.length ∧ p.sums.take i = q.sums.take i, fun i => [.int .i64 i], fun _ => [.blk g1 28 (pcC p (.slice A p.dt.length cap) (.slice B p.sums.length bc)), .blk g2 28 (pcC q (.slice A2 q.dt.length cap2) (.slice B2 q.sums.length bc2))], fun i => p.sums.length - i, 0, ⟨Nat.zero_le _, rfl⟩, ⟨rfl, trivial⟩, Ent.refl _, ?_⟩
  rintro i ⟨hi, he⟩ js
  have hi : i ≤ p.sums.length := hi
  have he : p.sums.take i = q.sums.take i := he
  by_cases d : i < p.sums.length
  · repeat (first | (refine ⟨fun h => ?_, fun h => ?_⟩; rotate_left 1; (focus (exfalso; (first | (with_reducible (cases h; done)) | (revert h; simp; done) | (revert h; simp; omega) | (revert h; simp [*]; done)))); clear h) | (refine ⟨fun h => ?_, fun h => ?_⟩; (focus (exfalso; (first | (with_reducible (cases h; done)) | (revert h; simp; done) | (revert h; simp; omega) | (revert h; simp [*]; done)))); clear h))
    obtain ⟨x, rfl, hx⟩ := hs.one d
    obtain ⟨y, rfl, hy⟩ := hs2.one (show i < q.sums.length by omega)
    have hga : p.sums[i]? = some (p.sums.getD i []) := by rw [List.getD_eq_getElem?_getD, List.getElem?_eq_getElem d]; rfl
    have hgb : q.sums[i]? = some (q.sums.getD i []) := by rw [List.getD_eq_getElem?_getD, List.getElem?_eq_getElem (show i < q.sums.length by omega)]; rfl
    generalize p.sums.getD i [] = s at *
    generalize q.sums.getD i [] = t at *
    refine ⟨[0,0], lexT 0 11, by kernel_rfl, ?_⟩
    refine ⟨_, ld 0 rfl rfl, ?_⟩
    refine ⟨by omega, by omega, x, rfl, _, .inl hx, ?_⟩
    refine ⟨_, ld 1 rfl rfl, ?_⟩
    refine ⟨by omega, by omega, y, rfl, _, .inl hy, ?_⟩
    by_cases c : s = t
    · subst c
      repeat (first | (refine ⟨fun h => ?_, fun h => ?_⟩; rotate_left 1; (focus (exfalso; (first | (with_reducible (cases h; done)) | (revert h; simp; done) | (revert h; simp; omega) | (revert h; simp [*]; done)))); clear h) | (refine ⟨fun h => ?_, fun h => ?_⟩; (focus (exfalso; (first | (with_reducible (cases h; done)) | (revert h; simp; done) | (revert h; simp; omega) | (revert h; simp [*]; done)))); clear h))
      (intro z hz; obtain rfl : z = ((i + 1 : Nat) : Int) := (by first | (rw [IntKind.wrap_i64] at hz; omega) | (rw [IntKind.wrap_u64] at hz; omega) | omega); clear hz)
      exact ⟨rfl, i + 1, ⟨d, by rw [List.take_add_one, List.take_add_one, hga, hgb, he]⟩, by show p.sums.length - (i + 1) < p.sums.length - i; omega, ⟨rfl, trivial⟩, Ent.refl _, rfl⟩
    · repeat (first | (refine ⟨fun h => ?_, fun h => ?_⟩; rotate_left 1; (focus (exfalso; (first | (with_reducible (cases h; done)) | (revert h; simp; done) | (revert h; simp; omega) | (revert h; simp [*]; done)))); clear h) | (refine ⟨fun h => ?_, fun h => ?_⟩; (focus (exfalso; (first | (with_reducible (cases h; done)) | (revert h; simp; done) | (revert h; simp; omega) | (revert h; simp [*]; done)))); clear h))
      exact ⟨_, Ent.nil _, no_D rfl (fun e => c (by rw [e.2.2, hgb] at hga; exact (Option.some.inj hga).symm)), rfl⟩
  · repeat (first | (refine ⟨fun h => ?_, fun h => ?_⟩; rotate_left 1; (focus (exfalso; (first | (with_reducible (cases h; done)) | (revert h; simp; done) | (revert h; simp; omega) | (revert h; simp [*]; done)))); clear h) | (refine ⟨fun h => ?_, fun h => ?_⟩; (focus (exfalso; (first | (with_reducible (cases h; done)) | (revert h; simp; done) | (revert h; simp; omega) | (revert h; simp [*]; done)))); clear h))
    obtain rfl : i = p.sums.length := by omega
    rw [List.take_length, c3', List.take_length] at he
    exact ⟨_, Ent.nil _, yes_D rfl ⟨c1, c2, he⟩, rfl⟩

theorem add1_15 {a : Str} (h : a.length ≤ 1000000) : ([1] : Str).length + a.length ≤ maxLen := by rw [maxLen_eq]; show 1 + _ ≤ _; omega
theorem add2_15 {a b : Str} (h : a.length ≤ 1000000) (h2 : b.length ≤ 1000000) : ([1] ++ a).length + b.length ≤ maxLen := by rw [maxLen_eq, List.length_append]; show 1 + _ + _ ≤ _; omega
theorem root15 {l : List Str} (h : 2 ≤ l.length) : rootOf l = sha (1 :: (rootOf (l.take (splitN l.length)) ++ rootOf (l.drop (splitN l.length)))) := rootOf_two h
theorem sums_take15 {l : List Str} (h : sumsB l = true) (k : Nat) : sumsB (l.take k) = true := sums_mem fun x hx => mem_sums h x (List.mem_of_mem_take hx)
theorem sums_drop15 {l : List Str} (h : sumsB l = true) (k : Nat) : sumsB (l.drop k) = true := sums_mem fun x hx => mem_sums h x (List.mem_of_mem_drop hx)
/-- Two lists of sums with one root that differ. -/
structure Diff (a b : List Str) : Prop where
  len : a.length = b.length
  ne : a ≠ b
  root : rootOf a = rootOf b
  sa : sumsB a = true
  sb : sumsB b = true
theorem Diff.two {a b : List Str} (h : Diff a b) : 2 ≤ a.length := by
  rcases Nat.lt_or_ge a.length 2 with d | d
  · exfalso
    have hl := h.len
    have hr := h.root
    refine h.ne ?_
    match a, b with
    | [], [] => rfl
    | [x], [y] =>
      have e : ([x] : List Str).getD 0 [] = ([y] : List Str).getD 0 [] := by rw [← rootOf_one (l := [x]) rfl, ← rootOf_one (l := [y]) rfl]; exact hr
      have e : x = y := e
      rw [e]
    | [], _ :: _ => cases hl
    | [_], [] => cases hl
    | [_], _ :: _ :: _ => cases hl
    | _ :: _ :: r, _ => have : (r.length + 1) + 1 < 2 := d; omega
  · exact d
theorem Diff.step {a b : List Str} (h : Diff a b) : let k := splitN a.length; let x : Str := [1] ++ rootOf (a.take k) ++ rootOf (a.drop k); let y : Str := [1] ++ rootOf (b.take k) ++ rootOf (b.drop k);
    (x ≠ y ∧ sha x = sha y) ∨ Diff (a.take k) (b.take k) ∨ Diff (a.drop k) (b.drop k) := by
  intro k x y
  have h2 := h.two
  have hl := h.len
  by_cases c : x = y
  · have hk := splitN_lt h2
    have hk0 := splitN_pos a.length
    have e : rootOf (a.take k) ++ rootOf (a.drop k) = rootOf (b.take k) ++ rootOf (b.drop k) := by
      have : ([1] : Str) ++ (rootOf (a.take k) ++ rootOf (a.drop k)) = [1] ++ (rootOf (b.take k) ++ rootOf (b.drop k)) := by rw [← List.append_assoc, ← List.append_assoc]; exact c
      exact List.append_cancel_left this
    have l1 := root_sum (sums_take15 h.sa k)
    have l2 := root_sum (sums_take15 h.sb k)
    obtain ⟨e1, e2⟩ := List.append_inj e (by rw [l1, l2])
    by_cases t : a.take k = b.take k
    · refine .inr (.inr ⟨by rw [List.length_drop, List.length_drop, hl], fun d => h.ne ?_, e2, sums_drop15 h.sa k, sums_drop15 h.sb k⟩)
      rw [← List.take_append_drop k a, ← List.take_append_drop k b, t, d]
    · exact .inr (.inl ⟨by rw [List.length_take, List.length_take, hl], t, e1, sums_take15 h.sa k, sums_take15 h.sb k⟩)
  · refine .inl ⟨c, ?_⟩
    have ra := root15 h2
    have rb := root15 (l := b) (by omega)
    rw [← hl] at rb
    show sha ([1] ++ _ ++ _) = sha ([1] ++ _ ++ _)
    rw [List.append_assoc, List.append_assoc]
    exact ra.symm.trans (h.root.trans rb)
set_option maxRecDepth 100000 in
set_option maxHeartbeats 4000000 in
theorem Lists15_ok : ∀ (n : Nat) (R : Rd) (hG : ShaG R) (a b : List Str) (u v : Value), a.length = n → Small a → Small b → Ss R u a → Ss R v b →
    Fn Tryd.prog 11 [u, v] [] R (fun v h => ∃ r : Bool, v = .bool r ∧ h = [] ∧ (Diff a b → r = true)) := by
  intro n
  induction n using Nat.strongRecOn with
  | _ n ih =>
  intro R hG a b u v hn hsa hsb hu hv
  have hlen := hsa.1
  have hlenb := hsb.1
  have hu' := hu
  obtain ⟨A, cap, rfl, hc, _⟩ := hu'
  have hv' := hv
  obtain ⟨B, bc, rfl, hbc, _⟩ := hv'
  refine fn_of_vc mixed tabOk Tryd.func11 rfl (by kernel_rfl) (Nat.le_of_ble_eq_true rfl) ?_
  by_cases c1 : (a.length : Int) = b.length
  case neg =>
    repeat (first | (refine ⟨fun h => ?_, fun h => ?_⟩; rotate_left 1; (focus (exfalso; (first | (with_reducible (cases h; done)) | (revert h; simp; done) | (revert h; simp; omega) | (revert h; simp [*]; done)))); clear h) | (refine ⟨fun h => ?_, fun h => ?_⟩; (focus (exfalso; (first | (with_reducible (cases h; done)) | (revert h; simp; done) | (revert h; simp; omega) | (revert h; simp [*]; done)))); clear h))
    exact ⟨_, Ent.nil _, false, rfl, rfl, fun d => absurd (by rw [d.len]) c1⟩
  repeat (first | (refine ⟨fun h => ?_, fun h => ?_⟩; rotate_left 1; (focus (exfalso; (first | (with_reducible (cases h; done)) | (revert h; simp; done) | (revert h; simp; omega) | (revert h; simp [*]; done)))); clear h) | (refine ⟨fun h => ?_, fun h => ?_⟩; (focus (exfalso; (first | (with_reducible (cases h; done)) | (revert h; simp; done) | (revert h; simp; omega) | (revert h; simp [*]; done)))); clear h))
  have hab : a.length = b.length := by omega
  by_cases c2 : (a.length : Int) < 2
  · repeat (first | (refine ⟨fun h => ?_, fun h => ?_⟩; rotate_left 1; (focus (exfalso; (first | (with_reducible (cases h; done)) | (revert h; simp; done) | (revert h; simp; omega) | (revert h; simp [*]; done)))); clear h) | (refine ⟨fun h => ?_, fun h => ?_⟩; (focus (exfalso; (first | (with_reducible (cases h; done)) | (revert h; simp; done) | (revert h; simp; omega) | (revert h; simp [*]; done)))); clear h))
    exact ⟨_, Ent.nil _, false, rfl, rfl, fun d => absurd d.two (by omega)⟩
  repeat (first | (refine ⟨fun h => ?_, fun h => ?_⟩; rotate_left 1; (focus (exfalso; (first | (with_reducible (cases h; done)) | (revert h; simp; done) | (revert h; simp; omega) | (revert h; simp [*]; done)))); clear h) | (refine ⟨fun h => ?_, fun h => ?_⟩; (focus (exfalso; (first | (with_reducible (cases h; done)) | (revert h; simp; done) | (revert h; simp; omega) | (revert h; simp [*]; done)))); clear h))
  have h2 : 2 ≤ a.length := by omega
  refine ⟨[none, none, none, none, none, some 5, none, none, none, none, none, none, none, none, none, none, none, none, some 18, some 19, some 20, some 21, some 22, some 23, some 24, some 25], [5], Nat × Nat, fun ⟨k, e⟩ => k = 2 ^ e ∧ k < a.length, fun ⟨k, _⟩ => [.int .i64 k], fun _ => [], fun ⟨k, _⟩ => a.length - k, (1, 0), ⟨rfl, by omega⟩, ⟨rfl, trivial⟩, Ent.refl _, ?_⟩
  rintro ⟨k, e⟩ ⟨hk, hkn⟩ js
  have hk : k = 2 ^ e := hk
  have hkn : k < a.length := hkn
  have hp := Nat.two_pow_pos e
  (intro z hz; obtain rfl : z = ((a.length - k : Nat) : Int) := (by first | (rw [IntKind.wrap_i64] at hz; omega) | (rw [IntKind.wrap_u64] at hz; omega) | omega); clear hz)
  refine ⟨fun hb => ?_, fun hb => ?_⟩
  · replace hb := of_decide_eq_true hb
    (intro z hz; obtain rfl : z = ((2 * k : Nat) : Int) := (by first | (rw [IntKind.wrap_i64] at hz; omega) | (rw [IntKind.wrap_u64] at hz; omega) | omega); clear hz)
    refine ⟨rfl, (2 * k, e + 1), ⟨by rw [hk, Nat.pow_succ, Nat.mul_comm], by omega⟩, by show a.length - 2 * k < a.length - k; omega, ⟨rfl, trivial⟩, Ent.refl _, rfl⟩
  replace hb := of_decide_eq_false hb
  have hsp := splitN_unique hk hkn (by omega)
  clear hk
  have hk0 : 0 < k := by omega
  have hrl := (hsa.take k).root
  have hrl2 := (hsa.drop k).root
  have hrm := (hsb.take k).root
  have hrm2 := (hsb.drop k).root
  have hlt : (a.take k).length = k := by rw [List.length_take]; omega
  have hlt2 : (b.take k).length = k := by rw [List.length_take]; omega
  have hta := hu.take (k := k) (by omega)
  have hda := hu.drop (k := k) (by omega)
  have htb := hv.take (k := k) (by omega)
  have hdb := hv.drop (k := k) (by omega)
  have hst : Diff a b → _ := fun d => d.step
  rw [← hsp] at hst
  refine ⟨[], (.q 0 (.q 1 (.q 2 (.q 5 (.q 6 (.q 7 (.one 3 (.q 4 (.one 8 (.q 9 (.q 10 .nil))))))))))), by kernel_rfl, ?_⟩
  refine ⟨0, k, rfl, rfl, by omega, by omega, ?_⟩
  refine ⟨k, a.length, rfl, rfl, by omega, by omega, ?_⟩
  refine ⟨[], _, Root_ok _ ((hG.rh _).rh _) _ (a.take k) _ rfl (hsa.take _) ((hta.rh _).rh _), ?_⟩
  rintro _ _ ⟨rfl, rfl⟩
  refine ⟨add1_15 hrl, ?_⟩
  refine ⟨[], _, Root_ok _ ((hG.rh _).rh _) _ (a.drop k) _ rfl (hsa.drop _) ((hda.rh _).rh _), ?_⟩
  rintro _ _ ⟨rfl, rfl⟩
  refine ⟨add2_15 hrl hrl2, ?_⟩
  refine ⟨[], (.q 0 (.q 1 (.q 2 (.q 5 (.q 6 (.q 7 (.one 3 (.q 4 (.one 8 (.q 9 (.q 10 .nil))))))))))), by kernel_rfl, ?_⟩
  refine ⟨0, k, rfl, rfl, by omega, by omega, ?_⟩
  refine ⟨k, b.length, rfl, rfl, by omega, by omega, ?_⟩
  refine ⟨[], _, Root_ok _ ((hG.rh _).rh _) _ (b.take k) _ rfl (hsb.take _) ((htb.rh _).rh _), ?_⟩
  rintro _ _ ⟨rfl, rfl⟩
  refine ⟨add1_15 hrm, ?_⟩
  refine ⟨[], _, Root_ok _ ((hG.rh _).rh _) _ (b.drop k) _ rfl (hsb.drop _) ((hdb.rh _).rh _), ?_⟩
  rintro _ _ ⟨rfl, rfl⟩
  refine ⟨add2_15 hrm hrm2, ?_⟩
  obtain ⟨x, hx⟩ : ∃ x : Str, x = [1] ++ rootOf (a.take k) ++ rootOf (a.drop k) := ⟨_, rfl⟩
  obtain ⟨y, hy⟩ : ∃ y : Str, y = [1] ++ rootOf (b.take k) ++ rootOf (b.drop k) := ⟨_, rfl⟩
  have hst : Diff a b → (x ≠ y ∧ sha x = sha y) ∨ Diff (a.take k) (b.take k) ∨ Diff (a.drop k) (b.drop k) := by rw [hx, hy]; exact hst
  have hxl : x.length ≤ 1000000000 := by rw [hx, List.length_append, List.length_append]; show 1 + _ + _ ≤ _; omega
  have hyl : y.length ≤ 1000000000 := by rw [hy, List.length_append, List.length_append]; show 1 + _ + _ ≤ _; omega
  rw [← hx, ← hy]
  clear hx hy
  refine ⟨[], (.q 0 (.q 1 (.one 2 (.q 3 (.q 4 (.q 5 (.q 6 (.q 7 (.q 8 (.q 9 (.one 10 (.q 11 (.q 12 (.q 13 (.q 14 (.q 15 (.q 16 (.q 17 (.q 18 (.one 19 (.q 20 (.q 21 .nil)))))))))))))))))))))), by kernel_rfl, ?_⟩
  refine ⟨[], _, Collides15_ok _ ((hG.rh _).rh _) x y hxl hyl, ?_⟩
  rintro _ _ ⟨rfl, rfl⟩
  by_cases c : x ≠ y ∧ sha x = sha y
  · rw [decide_eq_true c]
    repeat (first | (refine ⟨fun h => ?_, fun h => ?_⟩; rotate_left 1; (focus (exfalso; (first | (with_reducible (cases h; done)) | (revert h; simp; done) | (revert h; simp; omega) | (revert h; simp [*]; done)))); clear h) | (refine ⟨fun h => ?_, fun h => ?_⟩; (focus (exfalso; (first | (with_reducible (cases h; done)) | (revert h; simp; done) | (revert h; simp; omega) | (revert h; simp [*]; done)))); clear h))
    exact ⟨_, Ent.nil _, true, rfl, rfl, fun _ => rfl⟩
  rw [decide_eq_false c]
  repeat (first | (refine ⟨fun h => ?_, fun h => ?_⟩; rotate_left 1; (focus (exfalso; (first | (with_reducible (cases h; done)) | (revert h; simp; done) | (revert h; simp; omega) | (revert h; simp [*]; done)))); clear h) | (refine ⟨fun h => ?_, fun h => ?_⟩; (focus (exfalso; (first | (with_reducible (cases h; done)) | (revert h; simp; done) | (revert h; simp; omega) | (revert h; simp [*]; done)))); clear h))
  refine ⟨0, k, rfl, rfl, by omega, by omega, ?_⟩
  repeat (first | (refine ⟨fun h => ?_, fun h => ?_⟩; rotate_left 1; (focus (exfalso; (first | (with_reducible (cases h; done)) | (revert h; simp; done) | (revert h; simp; omega) | (revert h; simp [*]; done)))); clear h) | (refine ⟨fun h => ?_, fun h => ?_⟩; (focus (exfalso; (first | (with_reducible (cases h; done)) | (revert h; simp; done) | (revert h; simp; omega) | (revert h; simp [*]; done)))); clear h))
  refine ⟨0, k, rfl, rfl, by omega, by omega, ?_⟩
  repeat (first | (refine ⟨fun h => ?_, fun h => ?_⟩; rotate_left 1; (focus (exfalso; (first | (with_reducible (cases h; done)) | (revert h; simp; done) | (revert h; simp; omega) | (revert h; simp [*]; done)))); clear h) | (refine ⟨fun h => ?_, fun h => ?_⟩; (focus (exfalso; (first | (with_reducible (cases h; done)) | (revert h; simp; done) | (revert h; simp; omega) | (revert h; simp [*]; done)))); clear h))
  refine ⟨[], _, ih k (by omega) _ ((hG.rh _).rh _) (a.take k) (b.take k) _ _ hlt (hsa.take _) (hsb.take _) ((hta.rh _).rh _) ((htb.rh _).rh _), ?_⟩
  rintro _ _ ⟨r, rfl, rfl, hr⟩
  cases r with
  | true =>
    repeat (first | (refine ⟨fun h => ?_, fun h => ?_⟩; rotate_left 1; (focus (exfalso; (first | (with_reducible (cases h; done)) | (revert h; simp; done) | (revert h; simp; omega) | (revert h; simp [*]; done)))); clear h) | (refine ⟨fun h => ?_, fun h => ?_⟩; (focus (exfalso; (first | (with_reducible (cases h; done)) | (revert h; simp; done) | (revert h; simp; omega) | (revert h; simp [*]; done)))); clear h))
    exact ⟨_, Ent.nil _, true, rfl, rfl, fun _ => rfl⟩
  | false =>
  repeat (first | (refine ⟨fun h => ?_, fun h => ?_⟩; rotate_left 1; (focus (exfalso; (first | (with_reducible (cases h; done)) | (revert h; simp; done) | (revert h; simp; omega) | (revert h; simp [*]; done)))); clear h) | (refine ⟨fun h => ?_, fun h => ?_⟩; (focus (exfalso; (first | (with_reducible (cases h; done)) | (revert h; simp; done) | (revert h; simp; omega) | (revert h; simp [*]; done)))); clear h))
  refine ⟨k, a.length, rfl, rfl, by omega, by omega, ?_⟩
  repeat (first | (refine ⟨fun h => ?_, fun h => ?_⟩; rotate_left 1; (focus (exfalso; (first | (with_reducible (cases h; done)) | (revert h; simp; done) | (revert h; simp; omega) | (revert h; simp [*]; done)))); clear h) | (refine ⟨fun h => ?_, fun h => ?_⟩; (focus (exfalso; (first | (with_reducible (cases h; done)) | (revert h; simp; done) | (revert h; simp; omega) | (revert h; simp [*]; done)))); clear h))
  refine ⟨k, b.length, rfl, rfl, by omega, by omega, ?_⟩
  repeat (first | (refine ⟨fun h => ?_, fun h => ?_⟩; rotate_left 1; (focus (exfalso; (first | (with_reducible (cases h; done)) | (revert h; simp; done) | (revert h; simp; omega) | (revert h; simp [*]; done)))); clear h) | (refine ⟨fun h => ?_, fun h => ?_⟩; (focus (exfalso; (first | (with_reducible (cases h; done)) | (revert h; simp; done) | (revert h; simp; omega) | (revert h; simp [*]; done)))); clear h))
  refine ⟨[], _, ih (a.length - k) (by omega) _ ((hG.rh _).rh _) (a.drop k) (b.drop k) _ _ (by rw [List.length_drop]) (hsa.drop _) (hsb.drop _) ((hda.rh _).rh _) ((hdb.rh _).rh _), ?_⟩
  rintro _ _ ⟨r2, rfl, rfl, hr2⟩
  repeat (first | (refine ⟨fun h => ?_, fun h => ?_⟩; rotate_left 1; (focus (exfalso; (first | (with_reducible (cases h; done)) | (revert h; simp; done) | (revert h; simp; omega) | (revert h; simp [*]; done)))); clear h) | (refine ⟨fun h => ?_, fun h => ?_⟩; (focus (exfalso; (first | (with_reducible (cases h; done)) | (revert h; simp; done) | (revert h; simp; omega) | (revert h; simp [*]; done)))); clear h))
  refine ⟨_, Ent.nil _, r2, rfl, rfl, fun d => ?_⟩
  rcases hst d with h | h | h
  · exact absurd h c
  · exact absurd (hr h) (by decide)
  · exact hr2 h

end Go.Proofs.YtgnmbgbiajgpeaaDoor
