/-
  Contracts of the reference of SHA-256: Pad, Sum, Join.
-/
import Derived.Test.YtgbdfpfiolbhlaaDoorShf
namespace Go.Proofs.YtgbdfpfiolbhlaaDoor
open Go Go.RowKit

/-- What the memory that is handed back says may be used. -/
theorem Fn.post {P : Program} {f : FuncId} {args : List Value} {h : Hp} {R : Rd} {Post Post' : Value → Hp → Prop} (c : Fn P f args h R Post) (hq : ∀ v h' w, Post v h' → Own h' w → Post' v h') : Fn P f args h R Post' :=
  ⟨c.1, fun w o r a => (c.2 w o r a).mono fun _ w' ⟨v, h', he, hp, t⟩ => ⟨v, h', he, hq v h' w' hp t.own, t⟩⟩
/-- Bytes of the call's own, in a new slice. -/
def OwnB0 (v : Value) (bs : List UInt8) (h : Hp) : Prop :=
  ∃ A k cap xs, v = .slice A k cap ∧ h = [.row A k cap 5 1 xs (0, 0)] ∧ k = bs.length ∧ xs = BV bs ∧ grow k A
def OwnBs (v : Value) (bs : List UInt8) (h : Hp) : Prop :=
  ∃ A k cap xs, v = .slice A k cap ∧ h = [.row A k cap 5 1 xs (0, 0)] ∧ k = bs.length ∧ xs = BV bs ∧ grow k A ∧ k ≤ cap
theorem OwnB0.caps {v : Value} {bs : List UInt8} {h : Hp} {w : World} (o : OwnB0 v bs h) (hw : Own h w) : OwnBs v bs h := by
  obtain ⟨A, k, cap, xs, rfl, rfl, hk, hxs, hg⟩ := o
  exact ⟨A, k, cap, xs, rfl, rfl, hk, hxs, hg, (row_cap hw 0 rfl).1⟩

set_option maxRecDepth 100000 in
theorem Pad_ok0 (R : Rd) (x : List UInt8) (v0 : Value) (hx : x.length ≤ 140737488000000) (hs : BsR R v0 x) :
    Fn Tryd.prog 77 [v0] [] R (fun v h => OwnB0 v (x ++ padOf x.length) h) := by
  obtain ⟨A0, cap0, rfl⟩ := hs.form
  have hML := maxLen_eq
  have hpz := padZ_lt x.length
  refine fn_of_vc mixed tabOk Tryd.func77 rfl (by kernel_rfl) (Nat.le_of_ble_eq_true rfl) ?_
  refine ⟨rfl, fun g => ?_⟩
  refine ⟨BV x, (BV_length x).trans (Nat.mul_one _).symm, (hs.rh _).src, BV_one _, by show (_ + _) * 1 ≤ _; omega, by omega, .inr ⟨0, rfl, rfl, rfl, rfl, rfl, rfl, fun A1 cap1 hg1 => ?_⟩⟩
  refine ⟨rfl, fun g2 => ?_⟩
  refine ⟨BV [128], rfl, rdRow 1 rfl, rfl, by show (_ + _) * 1 ≤ _; omega, by omega, .inr ⟨0, rfl, rfl, rfl, rfl, rfl, rfl, fun A2 cap2 hg2 => ?_⟩⟩
  refine ⟨[none, none, none, some 3, none, none, none, none, none, none, none, some 11, some 12, some 13, some 14, some 15, some 16, some 17], [3], Option Addr × Nat × Nat, fun ⟨A, cap, k⟩ => grow (x.length + 1 + k) A ∧ k ≤ padZ x.length, fun ⟨A, cap, k⟩ => [.slice A (x.length + 1 + k) cap],
    fun ⟨A, cap, k⟩ => [.row A (x.length + 1 + k) cap 5 1 (BV (x ++ 128 :: List.replicate k 0)) (0, 0)], fun ⟨A, cap, k⟩ => padZ x.length - k,
    (A2, cap2, 0), ⟨by rw [Nat.zero_add] at hg2; exact hg2, Nat.zero_le _⟩, ⟨by show Value.slice A2 (0 + x.length + 1) cap2 = _; rw [Nat.zero_add], trivial⟩, ?_, ?_⟩
  · show Ent [.row A2 (0 + x.length + 1) cap2 _ 1 ([] ++ BV x ++ BV [128]) _, _] [.row A2 (x.length + 1 + 0) cap2 _ 1 (BV (x ++ [128])) _]
    rw [Nat.zero_add, List.nil_append, ← BV_append]
    exact Ent.drop [_] [_]
  clear hg1 hg2
  rintro ⟨A, cap, k⟩ ⟨hg, hk⟩ js
  refine ⟨by decide, ?_⟩
  intro z hz; obtain rfl : z = (((x.length + 1 + k) % 64 : Nat) : Int) := hz
  refine ⟨fun hb => ?_, fun hb => ?_⟩
  · replace hb := of_decide_eq_false (Bool.not_eq_true' _ ▸ hb)
    have hlt : k < padZ x.length := by unfold padZ at hk hpz ⊢; omega
    clear hb
    refine ⟨rfl, fun g5 => ?_⟩
    refine ⟨BV [0], rfl, rdRow 1 rfl, rfl, by show (_ + _) * 1 ≤ _; omega, by omega, .inr ⟨0, rfl, rfl, rfl, rfl, rfl, rfl, fun A' cap' hg' => ?_⟩⟩
    refine ⟨rfl, (A', cap', k + 1), ⟨hg', hlt⟩, by show padZ x.length - (k + 1) < padZ x.length - k; omega, ⟨rfl, trivial⟩, ?_, rfl⟩
    have e : BV (x ++ 128 :: List.replicate k 0) ++ BV [0] = BV (x ++ 128 :: List.replicate (k + 1) 0) := by
      rw [← BV_append, List.append_assoc, List.cons_append, ← List.replicate_succ' (n := k)]
    show Ent [.row A' (x.length + 1 + k + 1) cap' _ 1 (BV (x ++ 128 :: List.replicate k 0) ++ BV [0]) _, _] _
    rw [e]
    exact Ent.drop [_] [_]
  · replace hb := of_decide_eq_true (Bool.not_eq_false' _ ▸ hb)
    have hkz : k = padZ x.length := by unfold padZ at hk hpz ⊢; omega
    subst hkz
    clear hb
    (intro z hz; obtain rfl : z = ((x.length : Nat) : Int) := (by first | (rw [IntKind.wrap_i64] at hz; omega) | (rw [IntKind.wrap_u64] at hz; omega) | omega); clear hz)
    (intro z hz; obtain rfl : z = ((8 * x.length : Nat) : Int) := (by first | (rw [IntKind.wrap_i64] at hz; omega) | (rw [IntKind.wrap_u64] at hz; omega) | omega); clear hz)
    refine ⟨[none, none, none, some 3, none, some 5, none, none, none, none, none, none, none, none, none, none, none, none, none, none, none, none, some 22, some 23, some 24, some 25, some 26, some 27, some 28, some 29, some 30, some 31, some 32, some 33], [3, 5], Option Addr × Nat × Nat, fun ⟨A, cap, j⟩ => grow (x.length + 1 + padZ x.length + j) A ∧ j ≤ 8, fun ⟨A, cap, j⟩ => [.slice A (x.length + 1 + padZ x.length + j) cap, .int .i64 (7 - (j : Int))],
      fun ⟨A, cap, j⟩ => [.row A (x.length + 1 + padZ x.length + j) cap 5 1 (BV (x ++ 128 :: (List.replicate (padZ x.length) 0 ++ (be64 (8 * x.length)).take j))) (0, 0)], fun ⟨A, cap, j⟩ => 8 - j,
      (A, cap, 0), ⟨hg, Nat.zero_le _⟩, ⟨rfl, rfl, trivial⟩, by simp only [List.take_zero, List.append_nil]; exact Ent.refl _, ?_⟩
    clear hg hk
    rintro ⟨A, cap, j⟩ ⟨hg, hj⟩ js2
    refine ⟨fun hb => ?_, fun hb => ?_⟩
    · replace hb := of_decide_eq_true hb
      have hj8 : j < 8 := by omega
      clear hb
      (intro z hz; obtain rfl : z = ((56 - 8 * j : Nat) : Int) := (by first | (rw [IntKind.wrap_i64] at hz; omega) | (rw [IntKind.wrap_u64] at hz; omega) | omega); clear hz)
      refine ⟨by omega, ?_⟩
      intro z hz
      obtain rfl := u64_shr (by omega) hz
      clear hz
      intro z hz
      obtain rfl := u8_of hz
      clear hz
      refine ⟨rfl, fun g5 => ?_⟩
      refine ⟨BV [UInt8.ofNat (8 * x.length / 2 ^ (56 - 8 * j))], rfl, rdRow 1 rfl, rfl, by show (_ + _) * 1 ≤ _; omega, by omega, .inr ⟨0, rfl, rfl, rfl, rfl, rfl, rfl, fun A' cap' hg' => ?_⟩⟩
      intro z hz
      obtain rfl : z = 7 - ((j + 1 : Nat) : Int) := by rw [IntKind.wrap_i64] at hz; omega
      clear hz
      refine ⟨rfl, (A', cap', j + 1), ⟨hg', hj8⟩, by show 8 - (j + 1) < 8 - j; omega, ⟨rfl, rfl, trivial⟩, ?_, rfl⟩
      have e : BV (x ++ 128 :: (List.replicate (padZ x.length) 0 ++ (be64 (8 * x.length)).take j)) ++ BV [UInt8.ofNat (8 * x.length / 2 ^ (56 - 8 * j))] = BV (x ++ 128 :: (List.replicate (padZ x.length) 0 ++ (be64 (8 * x.length)).take (j + 1))) := by
        rw [← BV_append, List.take_add_one, be64_take hj8]; simp
      show Ent [.row A' (x.length + 1 + padZ x.length + j + 1) cap' _ 1 (_ ++ BV [UInt8.ofNat (8 * x.length / 2 ^ (56 - 8 * j))]) _, _] _
      rw [e]
      exact Ent.drop [_] [_]
    · replace hb := of_decide_eq_false hb
      obtain rfl : j = 8 := by omega
      clear hb
      have hpad : 128 :: (List.replicate (padZ x.length) 0 ++ (be64 (8 * x.length)).take 8) = padOf x.length := by
        rw [padOf, Nat.mod_eq_of_lt (show 8 * x.length < 2 ^ 64 by omega)]; rfl
      refine ⟨_, Ent.refl _, A, _, cap, _, rfl, rfl, ?_, ?_, hg⟩
      · rw [List.length_append, padOf_length]; omega
      · rw [hpad]

theorem Pad_ok (R : Rd) (x : List UInt8) (v0 : Value) (hx : x.length ≤ 140737488000000) (hs : BsR R v0 x) :
    Fn Tryd.prog 77 [v0] [] R (fun v h => OwnBs v (x ++ padOf x.length) h) := (Pad_ok0 R x v0 hx hs).post fun _ _ _ h o => h.caps o

theorem setRange_S8 (s t : S8) : setRange (WV s.list) 0 (WV t.list) = WV t.list := setRange_all rfl

theorem block_take {y : List UInt8} {s : S8} {n : Nat} (hn : 64 * (n + 1) ≤ y.length) : blocks (n + 1) s y = compress (blocks n s y) ((y.drop (64 * n)).take 64) := by
  have h1 : y = y.take (64 * n) ++ ((y.drop (64 * n)).take 64 ++ y.drop (64 * n + 64)) := by
    rw [← List.drop_drop, List.take_append_drop, List.take_append_drop]
  have hl : (y.take (64 * n)).length = 64 * n := by rw [List.length_take]; omega
  have hl2 : ((y.drop (64 * n)).take 64).length = 64 := by rw [List.length_take, List.length_drop]; omega
  have e1 : blocks (n + 1) s y = blocks 1 (blocks n s (y.take (64 * n))) ((y.drop (64 * n)).take 64 ++ y.drop (64 * n + 64)) := by
    conv => lhs; rw [h1]
    rw [blocks_append n 1 s _ _ (by omega)]
  have e2 : blocks n s y = blocks n s (y.take (64 * n)) := by
    conv => lhs; rw [h1]
    rw [blocks_take n s _ _ (by rw [hl]; exact Nat.le_refl _)]
  rw [e1, e2, blocks, blocks, List.take_append_of_le_length (by rw [hl2]; exact Nat.le_refl _), List.take_of_length_le (show ((y.drop (64 * n)).take 64).length ≤ 64 by rw [hl2]; exact Nat.le_refl _)]

set_option maxRecDepth 100000 in
set_option maxHeartbeats 1000000 in
theorem refSum_ok (R : Rd) (x : List UInt8) (v0 : Value) (hx : x.length ≤ 140737488000000) (hs : BsR R v0 x) :
    Fn Tryd.prog 54 [v0] [] R (fun v h => v = .string ⟨⟨sha x⟩⟩ ∧ h = []) := by
  obtain ⟨A0, cap0, rfl⟩ := hs.form
  have hML := maxLen_eq
  refine fn_of_vc mixed tabOk Tryd.func54 rfl (by kernel_rfl) (Nat.le_of_ble_eq_true rfl) ?_
  intro g3
  refine ⟨rfl, rfl, 0, rfl, rfl, Nat.le_of_ble_eq_true rfl, ?_⟩
  refine ⟨[], _, Pad_ok _ x _ hx (hs.rh _), ?_⟩
  rintro _ _ ⟨A, k, cap, xs, rfl, rfl, hk, hxs, hg, hkc⟩
  have hpl : (x ++ padOf x.length).length = x.length + (9 + padZ x.length) := by rw [List.length_append, padOf_length]
  have hpm := pad_mod x.length
  have hpz := padZ_lt x.length
  refine ⟨[none, none, none, none, none, some 5, none, none, none, none, none, some 11, some 12, some 13, some 14, some 15, some 16, some 17, some 18, some 19, some 20, some 21, some 22, some 23], [5], Nat, fun n => 64 * n ≤ k, fun n => [.int .i64 (64 * n : Nat)], fun n => [.blk g3 88 (WV (blocks n shaH0 (x ++ padOf x.length)).list), .row A k cap 5 1 xs (0, 0)], fun n => k - 64 * n, 0, Nat.zero_le _, ⟨rfl, trivial⟩, Ent.refl _, ?_⟩
  intro n hn js
  refine ⟨fun hb => ?_, fun hb => ?_⟩
  · replace hb := of_decide_eq_true hb
    have hlt : 64 * n < k := by omega
    have hle : 64 * (n + 1) ≤ k := by omega
    clear hb
    refine ⟨[0,0], (.q 0 (.q 1 (.q 2 (.q 3 (.q 4 (.q 5 (.one 6 (.fin 7)))))))), by kernel_rfl, ?_⟩
    refine ⟨WV (blocks n shaH0 (x ++ padOf x.length)).list, rdPre (ys := []) 0 (by rw [List.append_nil]; rfl), rfl, ?_⟩
    (intro z hz; obtain rfl : z = ((64 * n + 64 : Nat) : Int) := (by first | (rw [IntKind.wrap_i64] at hz; omega) | (rw [IntKind.wrap_u64] at hz; omega) | omega); clear hz)
    refine ⟨64 * n, 64 * n + 64, rfl, rfl, by omega, by omega, ?_⟩
    have hb1 : BsR (RH R [.blk g3 88 (WV (blocks n shaH0 (x ++ padOf x.length)).list), .row A k cap 5 1 xs (0, 0)]) (.slice A k cap) (x ++ padOf x.length) := BsR.own 1 rfl hk hxs hg
    have hb2 := hb1.sub (l := 64 * n) (h := 64 * n + 64) (by omega) (by omega) (by omega)
    have e64 : 64 * n + 64 - 64 * n = 64 := by omega
    rw [e64] at hb2 ⊢
    have hbl : (((x ++ padOf x.length).drop (64 * n)).take 64).length = 64 := by rw [List.length_take, List.length_drop]; omega
    refine ⟨[], _, refBlock_ok _ _ _ _ _ hbl (hb2.rh _), ?_⟩
    rintro _ _ ⟨rfl, rfl⟩
    refine ⟨rfl, WV_one _, 0, rfl, rfl, Nat.le_of_ble_eq_true rfl, ?_⟩
    (intro z hz; obtain rfl : z = ((64 * (n + 1) : Nat) : Int) := (by first | (rw [IntKind.wrap_i64] at hz; omega) | (rw [IntKind.wrap_u64] at hz; omega) | omega); clear hz)
    refine ⟨rfl, n + 1, hle, by show k - 64 * (n + 1) < k - 64 * n; omega, ⟨rfl, trivial⟩, ?_, rfl⟩
    show Ent [.blk g3 _ (setRange (WV (blocks n shaH0 (x ++ padOf x.length)).list) 0 (WV (compress _ _).list)), _] [.blk g3 _ (WV (blocks (n + 1) shaH0 (x ++ padOf x.length)).list), _]
    rw [setRange_S8, ← block_take (by omega)]
    exact Ent.refl _
  · replace hb := of_decide_eq_false hb
    have hnk : 64 * n = k := by omega
    clear hb
    have hq : n = (x ++ padOf x.length).length / 64 := by omega
    subst hq
    refine ⟨rfl, fun g5 => ?_⟩
    obtain ⟨s, hsE⟩ : ∃ s, s = blocks ((x ++ padOf x.length).length / 64) shaH0 (x ++ padOf x.length) := ⟨_, rfl⟩
    refine ⟨[none, none, none, none, none, none, some 6, some 7, none, none, none, none, none, none, none, none, none, none, none, none, none, none, none, none, none, some 25, some 26, some 27, some 28, some 29, some 30, some 31, some 32, some 33, some 34, some 35, some 36, some 37, some 38, some 39, some 40, some 41, some 42, some 43, some 44, some 45, some 46, some 47, some 48, some 49, some 50], [7, 6], Nat × Option Addr × Nat, fun ⟨i, A, cap⟩ => i ≤ 8 ∧ grow (4 * i) A, fun ⟨i, A, cap⟩ => [.int .i64 i, .slice A (4 * i) cap],
      fun ⟨i, A2, cap2⟩ => [.blk g3 88 (WV s.list), .row A k cap 5 1 xs (0, 0), .row A2 (4 * i) cap2 5 1 (BV (dig s i)) (0, 0)],
      fun ⟨i, _, _⟩ => 8 - i, (0, some ⟨g5, 0, .none⟩, 0), ⟨Nat.zero_le _, .inl rfl⟩, ⟨rfl, rfl, trivial⟩, by rw [hsE]; exact Ent.refl _, ?_⟩
    rintro ⟨i, A2, cap2⟩ ⟨hi, hg2⟩ js3
    refine ⟨fun hb => ?_, fun hb => ?_⟩
    · replace hb := of_decide_eq_true hb
      have hi8 : i < 8 := by omega
      clear hb
      refine ⟨[0,0], (.q 0 (.q 1 (.q 2 (.q 3 (.q 4 (.q 5 (.q 6 (.q 7 (.q 8 (.q 9 (.q 10 (.q 11 (.q 12 (.q 13 (.q 14 (.q 15 (.q 16 (.q 17 (.q 18 (.q 19 (.one 20 (.one 21 (.q 22 .nil))))))))))))))))))))))), by kernel_rfl, ?_⟩
      refine ⟨by omega, by omega, _, ldb0 0 rfl (WV_get (S8.get_of_lt s hi8)), ?_⟩
      (refine ⟨by decide, ?_⟩; intro z hz; obtain rfl := bv_shr (n := 24) (by omega) hz; clear hz)
      intro z hz; obtain rfl := bv_u8 hz; clear hz
      refine ⟨by omega, by omega, _, ldb0 0 rfl (WV_get (S8.get_of_lt s hi8)), ?_⟩
      (refine ⟨by decide, ?_⟩; intro z hz; obtain rfl := bv_shr (n := 16) (by omega) hz; clear hz)
      intro z hz; obtain rfl := bv_u8 hz; clear hz
      refine ⟨by omega, by omega, _, ldb0 0 rfl (WV_get (S8.get_of_lt s hi8)), ?_⟩
      (refine ⟨by decide, ?_⟩; intro z hz; obtain rfl := bv_shr (n := 8) (by omega) hz; clear hz)
      intro z hz; obtain rfl := bv_u8 hz; clear hz
      refine ⟨by omega, by omega, _, ldb0 0 rfl (WV_get (S8.get_of_lt s hi8)), ?_⟩
      intro z hz; obtain rfl := bv_u8' hz; clear hz
      refine ⟨rfl, fun g6 => ?_⟩
      refine ⟨BV (s.list.getD i 0).bytes, rfl, rdRow 1 rfl, BV_one _, by show (_ + _) * 1 ≤ _; omega, by omega, .inr ⟨0, rfl, rfl, rfl, rfl, rfl, rfl, fun A' cap' hg' => ?_⟩⟩
      (intro z hz; obtain rfl : z = ((i + 1 : Nat) : Int) := (by first | (rw [IntKind.wrap_i64] at hz; omega) | (rw [IntKind.wrap_u64] at hz; omega) | omega); clear hz)
      refine ⟨rfl, (i + 1, A', cap'), ⟨hi8, hg'⟩, by show 8 - (i + 1) < 8 - i; omega, ⟨rfl, rfl, trivial⟩, ?_, rfl⟩
      show Ent [_, _, .row A' (4 * i + 4) cap' _ 1 (BV (dig s i) ++ BV (s.list.getD i 0).bytes) _, _] [_, _, .row A' (4 * (i + 1)) cap' _ 1 (BV (dig s (i + 1))) _]
      rw [← BV_append, dig_succ s hi8]
      exact Ent.drop [_, _, _] [_]
    · replace hb := of_decide_eq_false hb
      obtain rfl : i = 8 := by omega
      clear hb
      have hdl := dig_length s 8 (Nat.le_refl _)
      refine ⟨dig s 8, hdl, fun j b hj => (BsR.own (bs := dig s 8) 2 rfl hdl.symm rfl hg2).at_ hj, ?_⟩
      refine ⟨_, Ent.drop [] [_, _, _], ?_, rfl⟩
      rw [dig_full, hsE]
      rfl

theorem cat_take {l : List (List UInt8)} {i : Nat} (h : i < l.length) : cat (l.take (i + 1)) = cat (l.take i) ++ l.getD i [] := by
  rw [List.take_add_one, List.getD_eq_getElem?_getD, List.getElem?_eq_getElem h]
  show List.flatten (l.take i ++ [l[i]]) = List.flatten (l.take i) ++ l[i]
  rw [List.flatten_append]; simp
theorem cat_take_le {l : List (List UInt8)} {i : Nat} : (cat (l.take i)).length ≤ (cat l).length := by
  have : cat l = cat (l.take i) ++ cat (l.drop i) := by simp only [cat]; rw [← List.flatten_append, List.take_append_drop]
  rw [this, List.length_append]; omega

theorem refJoin_ok (R : Rd) (l : List (List UInt8)) (v0 : Value) (hx : (cat l).length ≤ 140737488000000) (hl : l.length ≤ 1152921504606846976) (hs : SsR R v0 l) :
    Fn Tryd.prog 56 [v0] [] R (fun v h => v = .string ⟨⟨sha (cat l)⟩⟩ ∧ h = []) := by
  obtain ⟨A, cap, rfl⟩ := hs.form
  have hML := maxLen_eq
  refine fn_of_vc mixed tabOk Tryd.func56 rfl (by kernel_rfl) (Nat.le_of_ble_eq_true rfl) ?_
  refine ⟨[none, none, none, some 3, none, some 5, none, none, some 8, some 9, some 10, some 11, some 12, some 13, some 14, some 15], [8, 3], Nat, fun i => i ≤ l.length, fun i => [.int .i64 i, .string ⟨⟨cat (l.take i)⟩⟩], fun _ => [], fun i => l.length - i, 0, Nat.zero_le _, ⟨rfl, rfl, trivial⟩, Ent.refl _, ?_⟩
  intro i hi js
  refine ⟨fun hb => ?_, fun hb => ?_⟩
  · replace hb := of_decide_eq_true hb
    have hil : i < l.length := by omega
    clear hb
    obtain ⟨a, ha, hr⟩ := hs.one hil
    refine ⟨by omega, by omega, a, ha, _, .inl hr, ?_⟩
    have hcat := cat_take hil
    have hlen : (cat (l.take i)).length + (l.getD i []).length ≤ (cat l).length := by
      rw [← List.length_append, ← hcat]; exact cat_take_le
    refine ⟨show (cat (l.take i)).length + (l.getD i []).length ≤ maxLen by omega, ?_⟩
    (intro z hz; obtain rfl : z = ((i + 1 : Nat) : Int) := (by first | (rw [IntKind.wrap_i64] at hz; omega) | (rw [IntKind.wrap_u64] at hz; omega) | omega); clear hz)
    refine ⟨rfl, i + 1, hil, by show l.length - (i + 1) < l.length - i; omega, ⟨rfl, by rw [hcat]; rfl, trivial⟩, Ent.refl _, rfl⟩
  · replace hb := of_decide_eq_false hb
    obtain rfl : i = l.length := by omega
    clear hb
    refine ⟨show (cat (l.take l.length)).length ≤ maxLen by rw [List.take_length]; omega, fun g2 cap2 => ?_⟩
    refine ⟨[], _, refSum_ok _ (cat (l.take l.length)) _ (by rw [List.take_length]; exact hx) (BsR.own 0 rfl rfl rfl (.inr ⟨g2, rfl⟩)), ?_⟩
    rintro _ _ ⟨rfl, rfl⟩
    refine ⟨_, Ent.drop [] [_], ?_, rfl⟩
    rw [List.take_length]; rfl

end Go.Proofs.YtgbdfpfiolbhlaaDoor
