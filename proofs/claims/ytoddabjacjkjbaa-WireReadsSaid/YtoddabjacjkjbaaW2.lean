/-
  Contracts of the functions of package wire (and of its reference) that compute with numbers.
-/
import Derived.Test.YtoddabjacjkjbaaW1
import Derived.Test.YtoddabjacjkjbaaTab
namespace Go.Proofs.Ytoddabjacjkjbaa
open Go Go.RowKit

theorem Zigzag_ok (R : Rd) (n : Int) (h1 : -9223372036854775808 ≤ n) (h2 : n ≤ 9223372036854775807) : Fn Try.prog 19 [.int .i64 n] [] R (fun v h => v = .int .u64 (zig n) ∧ h = []) := by
  refine fn_of_vc mixed tabOk Try.func19 rfl (by kernel_rfl) (Nat.le_of_ble_eq_true rfl) ?_
  refine ⟨fun hb => ?_, fun hb => ?_⟩
  · replace hb := of_decide_eq_true hb
    (intro z hz; obtain rfl := wr_i64 hz (by omega) (by omega); clear hz)
    (intro z hz; obtain rfl := wr_i64 hz (by omega) (by omega); clear hz)
    (intro z hz; obtain rfl := wr_u64 hz (by omega) (by omega); clear hz)
    (intro z hz; obtain rfl := wr_u64 hz (by omega) (by omega); clear hz)
    (intro z hz; obtain rfl := wr_u64 hz (by omega) (by omega); clear hz)
    refine ⟨_, Ent.refl _, ?_, rfl⟩
    show Value.int _ _ = _
    congr 1
    unfold zig; rw [if_pos hb]; omega
  · replace hb := of_decide_eq_false hb
    (intro z hz; obtain rfl := wr_u64 hz (by omega) (by omega); clear hz)
    (intro z hz; obtain rfl := wr_u64 hz (by omega) (by omega); clear hz)
    refine ⟨_, Ent.refl _, ?_, rfl⟩
    show Value.int _ _ = _
    congr 1
    unfold zig; rw [if_neg hb]; omega

theorem UintSize_ok (R : Rd) (n : Nat) (h2 : n ≤ 18446744073709551615) : Fn Try.prog 20 [.int .u64 n] [] R (fun v h => v = .int .i64 (usize n) ∧ h = []) := by
  have h10 := usize_le10 h2
  refine fn_of_vc mixed tabOk Try.func20 rfl (by kernel_rfl) (Nat.le_of_ble_eq_true rfl) ?_
  refine ⟨[some 0, none, none, some 3, some 4, some 5, some 6, some 7, some 8, some 9], [0,3], Nat × Nat, fun ⟨m, s⟩ => m ≤ n ∧ s + usize m = 1 + usize n, fun ⟨m, s⟩ => [.int .u64 m, .int .i64 s], fun _ => [], fun ⟨m, s⟩ => m, (n, 1), ⟨Nat.le_refl _, rfl⟩, ⟨rfl, rfl, trivial⟩, Ent.refl _, ?_⟩
  rintro ⟨m, s⟩ ⟨hm, hs⟩ js
  refine ⟨fun hb => ?_, fun hb => ?_⟩
  · replace hb := of_decide_eq_true hb
    refine ⟨by omega, ?_⟩
    intro z hz; obtain rfl := shr_7 hz; clear hz
    have hu := usize_big (n := m) (by omega)
    (intro z hz; obtain rfl := wr_i64 hz (by omega) (by omega); clear hz)
    exact ⟨rfl, (m / 128, s + 1), ⟨by omega, by omega⟩, by show m / 128 < m; omega, ⟨rfl, rfl, trivial⟩, Ent.refl _, rfl⟩
  · replace hb := of_decide_eq_false hb
    refine ⟨_, Ent.refl _, ?_, rfl⟩
    have hu := usize_small (n := m) (by omega)
    show Value.int _ _ = _
    congr 1
    omega

/-- Bytes of the call's own. -/
def OwnB (v : Value) (bs : List UInt8) (h : Hp) : Prop :=
  ∃ A k cap xs, v = .slice A k cap ∧ h = [.row A k cap 5 1 xs (0, 0)] ∧ k = bs.length ∧ xs = BV bs ∧ grow k A

theorem extend_ok (R : Rd) (v : Value) (bs : List UInt8) (h : Hp) (n : Nat) (h2 : n ≤ 18446744073709551615) (hb : bs.length ≤ 140737488000000) (ho : OwnB v bs h) :
    Fn Try.prog 28 [v, .int .u64 n] h R (fun v' h' => OwnB v' (bs ++ num n) h') := by
  obtain ⟨A, k, cap, xs, rfl, rfl, hk, hxs, hg⟩ := ho
  have h10 := usize_le10 h2
  have hML := maxLen_eq
  refine fn_of_vc mixed tabOk Try.func28 rfl (by kernel_rfl) (Nat.le_of_ble_eq_true rfl) ?_
  refine ⟨[some 0, some 1, none, none, none, some 5, some 6, some 7, some 8, some 9, some 10, some 11, some 12, some 13, some 14], [0, 1], Option Addr × Nat × Nat × List Value × Nat × List UInt8, fun ⟨A, k, cap, xs, m, cs⟩ => xs = BV cs ∧ k = cs.length ∧ cs ++ num m = bs ++ num n ∧ m ≤ n ∧ k + usize m = bs.length + usize n ∧ grow k A,
    fun ⟨A, k, cap, xs, m, cs⟩ => [.slice A k cap, .int .u64 m], fun ⟨A, k, cap, xs, m, cs⟩ => [.row A k cap 5 1 xs (0, 0)], fun ⟨A, k, cap, xs, m, cs⟩ => m, (A, k, cap, xs, n, bs), ⟨hxs, hk, rfl, Nat.le_refl _, by omega, hg⟩, ⟨rfl, rfl, trivial⟩, Ent.refl _, ?_⟩
  rintro ⟨A, k, cap, xs, m, cs⟩ ⟨hxs, hk, hcs, hm, hu, hg⟩ js
  refine ⟨fun hb => ?_, fun hb => ?_⟩
  · replace hb := of_decide_eq_true hb
    have hu2 := usize_big (n := m) (by omega)
    intro z hz
    have hz2 : z = ((m % 256 : Nat) : Int) := by rw [hz, IntKind.wrap_u8]; omega
    subst hz2; clear hz
    intro z hz
    rw [bor128 _ (by omega)] at hz
    subst hz
    refine ⟨rfl, fun g => ?_⟩
    refine ⟨[Value.int .u8 ((m % 256 % 128 + 128 : Nat) : Int)], rfl, rdRow 1 rfl, rfl, by show (_ + _) * 1 ≤ _; omega, by omega, .inr ⟨0, rfl, rfl, rfl, rfl, rfl, rfl, fun A' cap' hg' => ?_⟩⟩
    refine ⟨by omega, ?_⟩
    intro z hz; obtain rfl := shr_7 hz; clear hz
    refine ⟨rfl, (A', k + 1, cap', xs ++ [Value.int .u8 ((m % 256 % 128 + 128 : Nat) : Int)], m / 128, cs ++ [UInt8.ofNat (m % 128 + 128)]), ⟨?_, ?_, ?_, by omega, by omega, hg'⟩, by show m / 128 < m; omega, ⟨rfl, rfl, trivial⟩, Ent.drop [_] [_], rfl⟩
    · have e : ((m % 256 % 128 + 128 : Nat) : Int).toNat = m % 128 + 128 := by omega
      rw [hxs, BV_append, BV_singleton (by omega) (by omega), e]
    · rw [hk]; simp
    · rw [← hcs, num_big (n := m) (by omega)]; simp
  · replace hb := of_decide_eq_false hb
    have hu2 := usize_small (n := m) (by omega)
    intro z hz
    have hz2 : z = (m : Int) := by rw [hz, IntKind.wrap_u8]; omega
    subst hz2; clear hz
    refine ⟨rfl, fun g => ?_⟩
    refine ⟨[Value.int .u8 (m : Int)], rfl, rdRow 1 rfl, rfl, by show (_ + _) * 1 ≤ _; omega, by omega, .inr ⟨0, rfl, rfl, rfl, rfl, rfl, rfl, fun A' cap' hg' => ?_⟩⟩
    refine ⟨_, Ent.drop [_] [_], A', k + 1, cap', _, rfl, rfl, ?_, ?_, hg'⟩
    · rw [← hcs, hk, num_small (n := m) (by omega)]; simp
    · rw [← hcs, hxs, BV_append, num_small (n := m) (by omega), BV_singleton (by omega) (by omega)]; simp

theorem Unzigzag_ok (R : Rd) (n : Nat) (h2 : n ≤ 18446744073709551615) : Fn Try.prog 33 [.int .u64 n] [] R (fun v h => v = .int .i64 (zag n) ∧ h = []) := by
  refine fn_of_vc mixed tabOk Try.func33 rfl (by kernel_rfl) (Nat.le_of_ble_eq_true rfl) ?_
  refine ⟨by decide, ?_⟩
  intro z hz; obtain rfl : z = ((n % 2 : Nat) : Int) := hz
  refine ⟨fun hb => ?_, fun hb => ?_⟩
  · replace hb := of_decide_eq_true hb
    refine ⟨by decide, ?_⟩
    intro z hz; obtain rfl : z = ((n / 2 : Nat) : Int) := wr_u64 hz (show (0 : Int) ≤ ((n / 2 : Nat) : Int) by omega) (show ((n / 2 : Nat) : Int) ≤ _ by omega); clear hz
    (intro z hz; obtain rfl := wr_i64 hz (by omega) (by omega); clear hz)
    (intro z hz; obtain rfl := wr_i64 hz (by omega) (by omega); clear hz)
    (intro z hz; obtain rfl := wr_i64 hz (by omega) (by omega); clear hz)
    refine ⟨_, Ent.refl _, ?_, rfl⟩
    show Value.int _ _ = _
    congr 1
    unfold zag; rw [if_pos (by omega)]; omega
  · replace hb := of_decide_eq_false hb
    refine ⟨by decide, ?_⟩
    intro z hz; obtain rfl : z = ((n / 2 : Nat) : Int) := wr_u64 hz (show (0 : Int) ≤ ((n / 2 : Nat) : Int) by omega) (show ((n / 2 : Nat) : Int) ≤ _ by omega); clear hz
    (intro z hz; obtain rfl := wr_i64 hz (by omega) (by omega); clear hz)
    refine ⟨_, Ent.refl _, ?_, rfl⟩
    show Value.int _ _ = _
    congr 1
    unfold zag; rw [if_neg (by omega)]

theorem refUnzigzag_ok (R : Rd) (n : Nat) (h2 : n ≤ 18446744073709551615) : Fn Try.prog 45 [.int .u64 n] [] R (fun v h => v = .int .i64 (zag n) ∧ h = []) := by
  refine fn_of_vc mixed tabOk Try.func45 rfl (by kernel_rfl) (Nat.le_of_ble_eq_true rfl) ?_
  refine ⟨by decide, ?_⟩
  intro z hz; obtain rfl : z = ((n % 2 : Nat) : Int) := hz
  refine ⟨fun hb => ?_, fun hb => ?_⟩
  · replace hb := of_decide_eq_true hb
    refine ⟨by decide, ?_⟩
    intro z hz; obtain rfl : z = ((n / 2 : Nat) : Int) := wr_u64 hz (show (0 : Int) ≤ ((n / 2 : Nat) : Int) by omega) (show ((n / 2 : Nat) : Int) ≤ _ by omega); clear hz
    (intro z hz; obtain rfl := wr_i64 hz (by omega) (by omega); clear hz)
    refine ⟨_, Ent.refl _, ?_, rfl⟩
    show Value.int _ _ = _
    congr 1
    unfold zag; rw [if_neg (by omega)]
  · replace hb := of_decide_eq_false hb
    refine ⟨by decide, ?_⟩
    intro z hz; obtain rfl : z = ((n / 2 : Nat) : Int) := wr_u64 hz (show (0 : Int) ≤ ((n / 2 : Nat) : Int) by omega) (show ((n / 2 : Nat) : Int) ≤ _ by omega); clear hz
    (intro z hz; obtain rfl := wr_i64 hz (by omega) (by omega); clear hz)
    (intro z hz; obtain rfl := wr_i64 hz (by omega) (by omega); clear hz)
    (intro z hz; obtain rfl := wr_i64 hz (by omega) (by omega); clear hz)
    refine ⟨_, Ent.refl _, ?_, rfl⟩
    show Value.int _ _ = _
    congr 1
    unfold zag; rw [if_pos (by omega)]; omega

theorem Number_ok (R : Rd) (n : Nat) (h2 : n ≤ 18446744073709551615) : Fn Try.prog 51 [.int .u64 n] [] R (fun v h => OwnB v (num n) h) := by
  have h10 := usize_le10 h2
  have hML := maxLen_eq
  refine fn_of_vc mixed tabOk Try.func51 rfl (by kernel_rfl) (Nat.le_of_ble_eq_true rfl) ?_
  refine ⟨rfl, fun g => ?_⟩
  refine ⟨[some 0, none, none, some 3, none, some 5, some 6, some 7, some 8, some 9, some 10, some 11, some 12, some 13, some 14, some 15], [0, 3], Option Addr × Nat × Nat × List Value × Nat × List UInt8, fun ⟨A, k, cap, xs, m, cs⟩ => xs = BV cs ∧ k = cs.length ∧ cs ++ num m = num n ∧ m ≤ n ∧ k + usize m = usize n ∧ grow k A,
    fun ⟨A, k, cap, xs, m, cs⟩ => [.int .u64 m, .slice A k cap], fun ⟨A, k, cap, xs, m, cs⟩ => [.row A k cap 5 1 xs (0, 0)], fun ⟨A, k, cap, xs, m, cs⟩ => m, (some ⟨g, 0, .none⟩, 0, 0, [], n, []), ⟨rfl, rfl, rfl, Nat.le_refl _, by omega, .inl rfl⟩, ⟨rfl, rfl, trivial⟩, Ent.refl _, ?_⟩
  rintro ⟨A, k, cap, xs, m, cs⟩ ⟨hxs, hk, hcs, hm, hu, hg⟩ js
  refine ⟨fun hb => ?_, fun hb => ?_⟩
  · replace hb := of_decide_eq_true hb
    have hu2 := usize_big (n := m) (by omega)
    refine ⟨by decide, ?_⟩
    intro z hz; obtain rfl : z = ((m % 128 : Nat) : Int) := hz
    (intro z hz; obtain rfl := wr_u8 hz (by omega) (by omega); clear hz)
    (intro z hz; obtain rfl := wr_u8 hz (by omega) (by omega); clear hz)
    refine ⟨rfl, fun g => ?_⟩
    refine ⟨[Value.int .u8 ((m % 128 + 128 : Nat) : Int)], rfl, rdRow 1 rfl, rfl, by show (_ + _) * 1 ≤ _; omega, by omega, .inr ⟨0, rfl, rfl, rfl, rfl, rfl, rfl, fun A' cap' hg' => ?_⟩⟩
    refine ⟨by decide, ?_⟩
    intro z hz; obtain rfl : z = ((m / 128 : Nat) : Int) := wr_u64 hz (show (0 : Int) ≤ ((m / 128 : Nat) : Int) by omega) (show ((m / 128 : Nat) : Int) ≤ _ by omega); clear hz
    refine ⟨rfl, (A', k + 1, cap', xs ++ [Value.int .u8 ((m % 128 + 128 : Nat) : Int)], m / 128, cs ++ [UInt8.ofNat (m % 128 + 128)]), ⟨?_, ?_, ?_, by omega, by omega, hg'⟩, by show m / 128 < m; omega, ⟨rfl, rfl, trivial⟩, Ent.drop [_] [_], rfl⟩
    · have e : ((m % 128 + 128 : Nat) : Int).toNat = m % 128 + 128 := by omega
      rw [hxs, BV_append, BV_singleton (by omega) (by omega), e]
    · rw [hk]; simp
    · rw [← hcs, num_big (n := m) (by omega)]; simp
  · replace hb := of_decide_eq_false hb
    have hu2 := usize_small (n := m) (by omega)
    (intro z hz; obtain rfl := wr_u8 hz (by omega) (by omega); clear hz)
    refine ⟨rfl, fun g => ?_⟩
    refine ⟨[Value.int .u8 (m : Int)], rfl, rdRow 1 rfl, rfl, by show (_ + _) * 1 ≤ _; omega, by omega, .inr ⟨0, rfl, rfl, rfl, rfl, rfl, rfl, fun A' cap' hg' => ?_⟩⟩
    refine ⟨_, Ent.drop [_] [_], A', k + 1, cap', _, rfl, rfl, ?_, ?_, hg'⟩
    · rw [← hcs, hk, num_small (n := m) (by omega)]; simp
    · rw [← hcs, hxs, BV_append, num_small (n := m) (by omega), BV_singleton (by omega) (by omega)]; simp

theorem same_ok (R : Rd) (v u : Value) (x y : List UInt8) (hv : BsR R v x) (hu : BsR R u y) (hxl : x.length < 9223372036854775807) :
    Fn Try.prog 16 [v, u] [] R (fun r h => r = .bool (decide (x = y)) ∧ h = []) := by
  obtain ⟨A, cap, rfl⟩ := hv.form
  obtain ⟨A2, cap2, rfl⟩ := hu.form
  refine fn_of_vc mixed tabOk Try.func16 rfl (by kernel_rfl) (Nat.le_of_ble_eq_true rfl) ?_
  refine ⟨fun hb => ?_, fun hb => ?_⟩
  · refine ⟨_, Ent.refl _, ?_, rfl⟩
    show Value.bool false = _
    rw [decide_eq_false]
    rintro rfl
    simp at hb
  · have hl : x.length = y.length := by simp at hb; omega
    clear hb
    refine ⟨[none, none, none, none, some 4, some 5, none, none, none, none, none, some 11, some 12, some 13, some 14, some 15, some 16, some 17, some 18, some 19, some 20, some 21, some 22, some 23, some 24, some 25], [4, 5], Nat, fun i => i ≤ x.length ∧ x.take i = y.take i, fun i => [.bool false, .int .i64 i], fun _ => [], fun i => x.length - i, 0, ⟨by omega, by simp⟩, ⟨rfl, rfl, trivial⟩, Ent.refl _, ?_⟩
    rintro i ⟨hi, ht⟩ js
    refine ⟨fun hb => ?_, fun hb => ?_⟩
    · replace hb := of_decide_eq_true hb
      have h1 : i < x.length := by omega
      have h2 : i < y.length := by omega
      obtain ⟨a, rfl, hRa⟩ := hv.at_ (List.getElem?_eq_getElem h1)
      obtain ⟨a2, rfl, hRa2⟩ := hu.at_ (List.getElem?_eq_getElem h2)
      refine ⟨[], lexT 0 9, by kernel_rfl, ?_⟩
      refine ⟨by omega, by omega, a, rfl, ?_⟩
      refine ⟨_, ro (ld1 hRa), ?_⟩
      refine ⟨by omega, by omega, a2, rfl, ?_⟩
      refine ⟨_, ro (ld1 hRa2), ?_⟩
      refine ⟨fun hb => ?_, fun hb => ?_⟩
      · refine ⟨_, Ent.refl _, ?_, rfl⟩
        show Value.bool false = _
        rw [decide_eq_false]
        rintro rfl
        simp at hb
      · have he : x[i] = y[i] := UInt8.toNat.inj (by simp at hb; omega)
        (intro z hz; obtain rfl := wr_i64 hz (by omega) (by omega); clear hz)
        exact ⟨rfl, i + 1, ⟨by omega, take_succ_eq ht (List.getElem?_eq_getElem h1) (by rw [he]; exact List.getElem?_eq_getElem h2)⟩, by show x.length - (i + 1) < x.length - i; omega, ⟨rfl, rfl, trivial⟩, Ent.refl _, rfl⟩
    · replace hb := of_decide_eq_false hb
      have : i = x.length := by omega
      subst this
      refine ⟨_, Ent.refl _, ?_, rfl⟩
      show Value.bool true = _
      rw [decide_eq_true (eq_of_take hl ht)]

end Go.Proofs.Ytoddabjacjkjbaa

namespace Go.Proofs.Ytoddabjacjkjbaa
open Go Go.RowKit

/-- A writer at block g: its bytes and its error. -/
def IsW (g : Nat) (bs : List UInt8) (e : Int) (h : Hp) : Prop :=
  ∃ A k cap xs, h = [.blk g 60 [.slice A k cap, .int .i64 e], .row A k cap 5 1 xs (0, 0)] ∧ k = bs.length ∧ xs = BV bs ∧ grow k A

theorem NewWriter_ok (R : Rd) : Fn Try.prog 12 [] [] R (fun v h => ∃ g, v = .pointer (some ⟨g, 0, .none⟩) ∧ IsW g [] 0 h) := by
  refine fn_of_vc mixed tabOk Try.func12 rfl (by kernel_rfl) (Nat.le_of_ble_eq_true rfl) ?_
  intro g
  exact ⟨_, Ent.nilrow _ 5 1, g, rfl, .none, 0, 0, [], rfl, rfl, rfl, .inl rfl⟩

theorem WUint_ok (R : Rd) (g : Nat) (bs : List UInt8) (e : Int) (h : Hp) (n : Nat) (h2 : n ≤ 18446744073709551615) (hb : bs.length ≤ 140737488000000) (hw : IsW g bs e h) :
    Fn Try.prog 13 [.pointer (some ⟨g, 0, .none⟩), .int .u64 n] h R (fun _ h' => IsW g (if e = 0 then bs ++ num n else bs) e h') := by
  obtain ⟨A, k, cap, xs, rfl, hk, hx, hg⟩ := hw
  refine fn_of_vc mixed tabOk Try.func13 rfl (by kernel_rfl) (Nat.le_of_ble_eq_true rfl) ?_
  refine ⟨_, ld 0 rfl rfl, ?_⟩
  refine ⟨fun hb => ?_, fun hb => ?_⟩
  · replace hb := of_decide_eq_true hb
    subst hb
    refine ⟨_, ld 0 rfl rfl, ?_⟩
    refine ⟨[1], _, extend_ok _ _ bs _ n h2 (by assumption) ⟨A, k, cap, xs, rfl, rfl, hk, hx, hg⟩, ?_⟩
    rintro v' h' ⟨A', k', cap', xs', rfl, rfl, hk', hx', hg'⟩
    refine ⟨rfl, rfl, 0, rfl, rfl, Nat.le_of_ble_eq_true rfl, ?_⟩
    exact ⟨_, Ent.refl _, A', k', cap', xs', rfl, hk', hx', hg'⟩
  · replace hb := of_decide_eq_false hb
    rw [if_neg hb]
    exact ⟨_, Ent.refl _, A, k, cap, xs, rfl, hk, hx, hg⟩

theorem WBool_ok (R : Rd) (g : Nat) (bs : List UInt8) (e : Int) (h : Hp) (b : Bool) (hb : bs.length ≤ 140737488000000) (hw : IsW g bs e h) :
    Fn Try.prog 14 [.pointer (some ⟨g, 0, .none⟩), .bool b] h R (fun _ h' => IsW g (if e = 0 then bs ++ [if b then 1 else 0] else bs) e h') := by
  obtain ⟨A, k, cap, xs, rfl, hk, hx, hg⟩ := hw
  refine fn_of_vc mixed tabOk Try.func14 rfl (by kernel_rfl) (Nat.le_of_ble_eq_true rfl) ?_
  refine ⟨fun he => ?_, fun he => ?_⟩
  · subst he
    refine ⟨[0, 0], _, WUint_ok _ g bs e _ 1 (by omega) hb ⟨A, k, cap, xs, rfl, hk, hx, hg⟩, ?_⟩
    rintro v' h' hw'
    exact ⟨_, Ent.refl _, by rw [num_small (by omega)] at hw'; exact hw'⟩
  · subst he
    refine ⟨[0, 0], _, WUint_ok _ g bs e _ 0 (by omega) hb ⟨A, k, cap, xs, rfl, hk, hx, hg⟩, ?_⟩
    rintro v' h' hw'
    exact ⟨_, Ent.refl _, by rw [num_small (by omega)] at hw'; exact hw'⟩

/-- What Done returns. -/
def doneB (bs : List UInt8) (e : Int) : List UInt8 := if e = 0 ∧ bs.length ≤ 1048576 then bs else []
def doneE (bs : List UInt8) (e : Int) : Int := if e = 0 then (if bs.length ≤ 1048576 then 0 else 2) else e

theorem WDone_ok (R : Rd) (g : Nat) (bs : List UInt8) (e : Int) (h : Hp) (hw : IsW g bs e h) :
    Fn Try.prog 15 [.pointer (some ⟨g, 0, .none⟩)] h R (fun v h' => ∃ s hw' hs, v = .tuple ⟨[s, .int .i64 (doneE bs e)]⟩ ∧ h' = hw' ++ hs ∧ IsW g bs e hw' ∧ OwnB s (doneB bs e) hs) := by
  obtain ⟨A, k, cap, xs, rfl, hk, hx, hg⟩ := hw
  have hML := maxLen_eq
  refine fn_of_vc mixed tabOk Try.func15 rfl (by kernel_rfl) (Nat.le_of_ble_eq_true rfl) ?_
  refine ⟨_, ld 0 rfl rfl, ?_⟩
  refine ⟨fun he => ?_, fun he => ?_⟩
  · have he : ¬ e = 0 := by simpa using he
    refine ⟨[0], lexT 0 6, by kernel_rfl, ?_⟩
    refine ⟨_, .inr ⟨_, List.mem_of_getElem? (i := 0) rfl, rfl, rfl, rfl⟩, ?_⟩
    refine ⟨_, (Ent.nilrow _ 5 1), .slice .none 0 0, _, _, ?_, rfl, ⟨A, k, cap, xs, rfl, hk, hx, hg⟩, .none, 0, 0, [], rfl, rfl, ?_, ?_, .inl rfl⟩
    · show Value.tuple _ = _
      rw [doneE, if_neg he]
    · rw [doneB, if_neg (fun h => he h.1)]; rfl
    · rw [doneB, if_neg (fun h => he h.1)]; rfl
  · have he : e = 0 := by simpa using he
    subst he
    refine ⟨_, ld 0 rfl rfl, ?_⟩
    refine ⟨fun hb => ?_, fun hb => ?_⟩
    · replace hb := of_decide_eq_true hb
      refine ⟨_, (Ent.nilrow _ 5 1), .slice .none 0 0, _, _, ?_, rfl, ⟨A, k, cap, xs, rfl, hk, hx, hg⟩, .none, 0, 0, [], rfl, rfl, ?_, ?_, .inl rfl⟩
      · show Value.tuple _ = _
        rw [doneE, if_pos rfl, if_neg (by omega)]
      · rw [doneB, if_neg (by omega)]; rfl
      · rw [doneB, if_neg (by omega)]; rfl
    · replace hb := of_decide_eq_false hb
      refine ⟨rfl, fun g2 => ?_⟩
      refine ⟨_, ld 0 rfl rfl, ?_⟩
      have hsl := SlR.own (R := R) (h := [.blk g 60 [.slice A k cap, .int .i64 0], .row A k cap 5 1 xs (0, 0), .row (some ⟨g2, 0, .none⟩) 0 0 5 1 [] (0, 0)]) 1 rfl (by rw [hx, BV_length, hk, Nat.mul_one]) hg
      obtain ⟨hl, _, _, he, hsrc⟩ := hsl
      cases he
      refine ⟨xs, hl, hsrc, by rw [hx]; exact BV_one _, by show (0 + k) * 1 ≤ _; omega, by omega, .inr ⟨2, rfl, rfl, rfl, rfl, rfl, rfl, fun A' cap' hg' => ?_⟩⟩
      refine ⟨_, Ent.refl _, .slice A' (0 + k) cap', [_, _], [_], ?_, rfl, ⟨A, k, cap, xs, rfl, hk, hx, hg⟩, A', _, cap', _, rfl, rfl, ?_, ?_, hg'⟩
      · show Value.tuple _ = _
        rw [doneE, if_pos rfl, if_pos (by omega)]
      · rw [doneB, if_pos ⟨rfl, by omega⟩]; omega
      · rw [doneB, if_pos ⟨rfl, by omega⟩, hx]; rfl

end Go.Proofs.Ytoddabjacjkjbaa

namespace Go.Proofs.Ytoddabjacjkjbaa
open Go Go.RowKit

/-- A reader at block g: its bytes, its offset, the offset of the value that was read last, its error. -/
def IsR (g : Nat) (data : List UInt8) (off last : Nat) (e : Int) (h : Hp) : Prop :=
  ∃ A k cap xs, h = [.blk g 52 [.slice A k cap, .int .i64 off, .int .i64 last, .int .i64 e], .row A k cap 5 1 xs (0, 0)] ∧ k = data.length ∧ xs = BV data ∧ grow k A

theorem pow128 (i : Nat) : 2 ^ (7 * i) = 128 ^ i := by rw [Nat.pow_mul]

theorem shl_step {z : Int} {c i : Nat} (hi : i ≤ 9) (hc : c * 128 ^ i < 18446744073709551616) (hz : z = IntKind.u64.wrap ((c : Int) * 2 ^ (min (Int.toNat (7 * (i : Int))) IntKind.u64.bits))) : z = ((c * 2 ^ (7 * i) : Nat) : Int) := by
  have e : min (Int.toNat (7 * (i : Int))) IntKind.u64.bits = 7 * i := by
    have : IntKind.u64.bits = 64 := rfl
    omega
  have e2 : ((c : Int) * 2 ^ (7 * i)) = ((c * 2 ^ (7 * i) : Nat) : Int) := by push_cast; rfl
  rw [hz, e, e2]
  rw [← pow128] at hc
  exact wr_u64 rfl (by omega) (by omega)

theorem shl_any {z : Int} {x : Int} (hz : z = IntKind.u64.wrap x) : ∃ m : Nat, z = (m : Int) ∧ m < 18446744073709551616 := by
  rw [IntKind.wrap_u64] at hz
  exact ⟨z.toNat, by omega, by omega⟩

set_option maxRecDepth 100000 in
set_option maxHeartbeats 4000000 in
theorem number_ok (R : Rd) (g : Nat) (data : List UInt8) (off last : Nat) (e : Int) (h : Hp) (ho : off ≤ data.length) (hd : data.length ≤ 9000000000000000000) (hr : IsR g data off last e h) :
    Fn Try.prog 30 [.pointer (some ⟨g, 0, .none⟩)] h R (fun v h' => ∃ off', off' ≤ data.length ∧ IsR g data off' last e h' ∧
      ((∃ n r, dec (data.drop off) = some (n, r) ∧ v = .tuple ⟨[.int .u64 n, .int .i64 0]⟩ ∧ off' = off + usize n) ∨ (dec (data.drop off) = .none ∧ v = .tuple ⟨[.int .u64 0, .int .i64 3]⟩))) := by
  obtain ⟨A, k, cap, xs, rfl, hk, hx, hg⟩ := hr
  have hxl : xs.length = k * 1 := by rw [hx, BV_length, hk, Nat.mul_one]
  refine fn_of_vc mixed tabOk Try.func30 rfl (by kernel_rfl) (Nat.le_of_ble_eq_true rfl) ?_
  refine ⟨[none, none, some 2, some 3, some 4, some 5, some 6, some 7, some 8, some 9, some 10, some 11, some 12, some 13, some 14, some 15, some 16, some 17, some 18, some 19, some 20, some 21, some 22, some 23, some 24, some 25, some 26, some 27, some 28, some 29, some 30, some 31, some 32, some 33, some 34, some 35, some 36, some 37, some 38, some 39, some 40, some 41, some 42, some 43, some 44, some 45, some 46, some 47, some 48, some 49, some 50, some 51, some 52, some 53, some 54, some 55, some 56, some 57, some 58, some 59, some 60, some 61], [2, 6], Nat × Nat,
    fun ⟨i, acc⟩ => i ≤ 10 ∧ off + i ≤ data.length ∧ acc < 18446744073709551616 ∧ (i ≤ 9 → acc < 128 ^ i) ∧ dec (data.drop off) = (decG (10 - i) (data.drop (off + i))).map fun p => (acc + p.1 * 128 ^ i, p.2),
    fun ⟨i, acc⟩ => [.int .u64 acc, .int .i64 i], fun ⟨i, acc⟩ => [.blk g 52 [.slice A k cap, .int .i64 ((off + i : Nat) : Int), .int .i64 last, .int .i64 e], .row A k cap 5 1 xs (0, 0)], fun ⟨i, acc⟩ => 10 - i, (0, 0),
    ⟨by omega, by omega, by omega, fun _ => by simp, ?_⟩, ⟨rfl, rfl, trivial⟩, Ent.refl _, ?_⟩
  · show dec _ = _
    simp only [Nat.zero_add, Nat.pow_zero, Nat.mul_one, Nat.add_zero, Nat.sub_zero]
    cases hh : decG 10 (List.drop off data) with
    | none => exact hh
    | some p => exact hh
  rintro ⟨i, acc⟩ ⟨hi, hoi, hacc, hacc2, hdec⟩ js
  refine ⟨fun hb => ?_, fun hb => ?_⟩
  · replace hb := of_decide_eq_true hb
    have hi9 : i ≤ 9 := by omega
    have hj : 10 - i = (9 - i) + 1 := by omega
    rw [hj] at hdec
    refine ⟨[0], lexT 0 10, by kernel_rfl, ?_⟩
    refine ⟨_, ld 0 rfl rfl, ?_⟩
    refine ⟨_, ld 0 rfl rfl, ?_⟩
    refine ⟨fun he => ?_, fun he => ?_⟩
    · replace he := of_decide_eq_true he
      have hnil : data.drop (off + i) = [] := List.drop_eq_nil_of_le (by omega)
      rw [hnil] at hdec
      exact ⟨_, Ent.refl _, off + i, hoi, ⟨A, k, cap, xs, rfl, hk, hx, hg⟩, .inr ⟨hdec, rfl⟩⟩
    · replace he := of_decide_eq_false he
      have hlt : off + i < data.length := by omega
      have hxb : xs[off + i]? = some (.int .u8 (data[off + i].toNat : Int)) := by rw [hx]; exact BV_get (List.getElem?_eq_getElem hlt)
      rw [List.drop_eq_getElem_cons hlt] at hdec
      generalize hbe : data[off + i] = b at hdec hxb
      have hb256 := UInt8.toNat_lt b
      obtain ⟨g2, rfl⟩ := growA hg (by omega)
      refine ⟨[0, 0], lexT 0 11, by kernel_rfl, ?_⟩
      refine ⟨_, ld 0 rfl rfl, ?_⟩
      refine ⟨_, ld 0 rfl rfl, ?_⟩
      refine ⟨by omega, by omega, _, rfl, ?_⟩
      refine ⟨_, ldr1 1 rfl hxb, ?_⟩
      refine ⟨_, ld 0 rfl rfl, ?_⟩
      (intro z hz; obtain rfl := wr_i64 hz (by omega) (by omega); clear hz)
      refine ⟨rfl, rfl, 0, rfl, rfl, Nat.le_of_ble_eq_true rfl, ?_⟩
      intro z hz; rw [band127 _ (by omega)] at hz; subst hz
      intro z hz; obtain rfl : z = ((b.toNat % 128 : Nat) : Int) := wr_u64 hz (show (0 : Int) ≤ ((b.toNat % 128 : Nat) : Int) by omega) (show ((b.toNat % 128 : Nat) : Int) ≤ _ by omega)
      clear hz
      (intro z hz; obtain rfl := wr_i64 hz (by omega) (by omega); clear hz)
      refine ⟨by omega, ?_⟩
      intro z hz
      obtain ⟨m, rfl, hm⟩ := shl_any hz
      intro z2 hz2
      rw [bor_u64 hacc hm] at hz2
      subst hz2
      have hor : (acc ||| m) < 18446744073709551616 := Nat.or_lt_two_pow (n := 64) (by omega) (by omega)
      have hsum : (b.toNat % 128) * 128 ^ i < 18446744073709551616 → (acc ||| m) = acc + (b.toNat % 128) * 128 ^ i := by
        intro hlt
        have hz3 := shl_step hi9 hlt hz
        have : m = (b.toNat % 128) * 2 ^ (7 * i) := by omega
        rw [this, or_disjoint (by rw [pow128]; exact hacc2 hi9), pow128]
      have hp : (128 : Nat) ^ i ≤ 128 ^ 9 := Nat.pow_le_pow_right (by omega) hi9
      rw [decG] at hdec
      refine ⟨fun hb => ?_, fun hb => ?_⟩
      · replace hb := of_decide_eq_true hb
        rw [if_pos (by omega)] at hdec
        (intro z hz; obtain rfl := wr_i64 hz (by omega) (by omega); clear hz)
        refine ⟨rfl, (i + 1, acc ||| m), ⟨by omega, by omega, hor, fun h9 => ?_, ?_⟩, by show 10 - (i + 1) < 10 - i; omega, ⟨rfl, rfl, trivial⟩, Ent.refl _, rfl⟩
        · have h8 : (128 : Nat) ^ i ≤ 128 ^ 8 := Nat.pow_le_pow_right (by omega) (by omega)
          have h127 : b.toNat % 128 * 128 ^ i ≤ 127 * 128 ^ i := Nat.mul_le_mul_right _ (by omega)
          have := hacc2 hi9
          rw [hsum (by omega), Nat.pow_succ]
          omega
        · rw [hdec, show 10 - (i + 1) = 9 - i by omega, show off + (i + 1) = off + i + 1 by omega]
          rcases Nat.lt_or_ge i 9 with h9 | h9
          · have h8 : (128 : Nat) ^ i ≤ 128 ^ 8 := Nat.pow_le_pow_right (by omega) (by omega)
            have h127 : b.toNat % 128 * 128 ^ i ≤ 127 * 128 ^ i := Nat.mul_le_mul_right _ (by omega)
            rw [hsum (by omega)]
            cases hdd : decG (9 - i) (List.drop (off + i + 1) data) with
            | none => rfl
            | some p =>
              simp only [Option.map_some, Option.some.injEq, Prod.mk.injEq, and_true]
              have : b.toNat - 128 = b.toNat % 128 := by omega
              rw [this, Nat.add_mul, Nat.mul_assoc, Nat.pow_succ, Nat.mul_comm 128 (128 ^ i)]
              omega
          · have : 9 - i = 0 := by omega
            rw [this]
            rfl
      · replace hb := of_decide_eq_false hb
        have hbm : b.toNat % 128 = b.toNat := by omega
        rw [if_neg (by omega)] at hdec
        by_cases herr : (9 - i < 9 ∧ b.toNat = 0) ∨ (9 - i = 0 ∧ 1 < b.toNat)
        · rw [if_pos herr] at hdec
          have fin : ∃ off', off' ≤ data.length ∧ IsR g data off' last e [.blk g 52 [.slice (some ⟨g2, 0, .none⟩) k cap, .int .i64 ((off + i + 1 : Nat) : Int), .int .i64 last, .int .i64 e], .row (some ⟨g2, 0, .none⟩) k cap 5 1 xs (0, 0)] ∧
              ((∃ n r, dec (data.drop off) = some (n, r) ∧ Value.tuple ⟨[.int .u64 0, .int .i64 3]⟩ = .tuple ⟨[.int .u64 n, .int .i64 0]⟩ ∧ off' = off + usize n) ∨ (dec (data.drop off) = .none ∧ Value.tuple ⟨[.int .u64 0, .int .i64 3]⟩ = .tuple ⟨[.int .u64 0, .int .i64 3]⟩)) :=
            ⟨off + i + 1, by omega, ⟨_, k, cap, xs, rfl, hk, hx, hg⟩, .inr ⟨hdec, rfl⟩⟩
          by_cases hi0 : 0 < i
          · by_cases hb0 : b.toNat = 0
            · repeat (focus (refine ⟨fun h => ?_, fun h => ?_⟩; first | (focus (exfalso; first | (simp at h; done) | exact absurd (of_decide_eq_true h) (by assumption) | exact absurd (by assumption) (of_decide_eq_false h))) | (rotate_left; focus (exfalso; first | (simp at h; done) | exact absurd (of_decide_eq_true h) (by assumption) | exact absurd (by assumption) (of_decide_eq_false h))) | (focus (exfalso; simp at h; omega)) | (rotate_left; focus (exfalso; simp at h; omega)); clear h))
              exact ⟨_, Ent.refl _, fin⟩
            · have : i = 9 := by omega
              repeat (focus (refine ⟨fun h => ?_, fun h => ?_⟩; first | (focus (exfalso; first | (simp at h; done) | exact absurd (of_decide_eq_true h) (by assumption) | exact absurd (by assumption) (of_decide_eq_false h))) | (rotate_left; focus (exfalso; first | (simp at h; done) | exact absurd (of_decide_eq_true h) (by assumption) | exact absurd (by assumption) (of_decide_eq_false h))) | (focus (exfalso; simp at h; omega)) | (rotate_left; focus (exfalso; simp at h; omega)); clear h))
              exact ⟨_, Ent.refl _, fin⟩
          · omega
        · rw [if_neg herr] at hdec
          have hlt2 : b.toNat * 128 ^ i < 18446744073709551616 := by
            rcases Nat.lt_or_ge i 9 with h9 | h9
            · have h8 : (128 : Nat) ^ i ≤ 128 ^ 8 := Nat.pow_le_pow_right (by omega) (by omega)
              have h127 : b.toNat * 128 ^ i ≤ 127 * 128 ^ i := Nat.mul_le_mul_right _ (by omega)
              omega
            · have h1 : b.toNat ≤ 1 := by omega
              have h127 : b.toNat * 128 ^ i ≤ 1 * 128 ^ i := Nat.mul_le_mul_right _ h1
              omega
          rw [hbm] at hsum
          have hv := hsum hlt2
          simp only [Option.map_some] at hdec
          rw [← hv] at hdec
          have hus : off + i + 1 = off + usize (acc ||| m) := by
            have := (dec_iff.1 hdec).1
            have := congrArg List.length this
            simp only [List.length_drop, List.length_append, length_num] at this
            omega
          have fin : ∃ off', off' ≤ data.length ∧ IsR g data off' last e [.blk g 52 [.slice (some ⟨g2, 0, .none⟩) k cap, .int .i64 ((off + i + 1 : Nat) : Int), .int .i64 last, .int .i64 e], .row (some ⟨g2, 0, .none⟩) k cap 5 1 xs (0, 0)] ∧
              ((∃ n r, dec (data.drop off) = some (n, r) ∧ Value.tuple ⟨[.int .u64 ((acc ||| m : Nat) : Int), .int .i64 0]⟩ = .tuple ⟨[.int .u64 n, .int .i64 0]⟩ ∧ off' = off + usize n) ∨ (dec (data.drop off) = .none ∧ Value.tuple ⟨[.int .u64 ((acc ||| m : Nat) : Int), .int .i64 0]⟩ = .tuple ⟨[.int .u64 0, .int .i64 3]⟩)) :=
            ⟨off + i + 1, by omega, ⟨_, k, cap, xs, rfl, hk, hx, hg⟩, .inl ⟨_, _, hdec, rfl, hus⟩⟩
          by_cases hi0 : 0 < i
          · have hb0 : ¬ b.toNat = 0 := by omega
            by_cases hi99 : i = 9
            · have h1b : ¬ 1 < b.toNat := by omega
              repeat (focus (refine ⟨fun h => ?_, fun h => ?_⟩; first | (focus (exfalso; first | (simp at h; done) | exact absurd (of_decide_eq_true h) (by assumption) | exact absurd (by assumption) (of_decide_eq_false h))) | (rotate_left; focus (exfalso; first | (simp at h; done) | exact absurd (of_decide_eq_true h) (by assumption) | exact absurd (by assumption) (of_decide_eq_false h))) | (focus (exfalso; simp at h; omega)) | (rotate_left; focus (exfalso; simp at h; omega)); clear h))
              exact ⟨_, Ent.refl _, fin⟩
            · repeat (focus (refine ⟨fun h => ?_, fun h => ?_⟩; first | (focus (exfalso; first | (simp at h; done) | exact absurd (of_decide_eq_true h) (by assumption) | exact absurd (by assumption) (of_decide_eq_false h))) | (rotate_left; focus (exfalso; first | (simp at h; done) | exact absurd (of_decide_eq_true h) (by assumption) | exact absurd (by assumption) (of_decide_eq_false h))) | (focus (exfalso; simp at h; omega)) | (rotate_left; focus (exfalso; simp at h; omega)); clear h))
              exact ⟨_, Ent.refl _, fin⟩
          · repeat (focus (refine ⟨fun h => ?_, fun h => ?_⟩; first | (focus (exfalso; first | (simp at h; done) | exact absurd (of_decide_eq_true h) (by assumption) | exact absurd (by assumption) (of_decide_eq_false h))) | (rotate_left; focus (exfalso; first | (simp at h; done) | exact absurd (of_decide_eq_true h) (by assumption) | exact absurd (by assumption) (of_decide_eq_false h))) | (focus (exfalso; simp at h; omega)) | (rotate_left; focus (exfalso; simp at h; omega)); clear h))
            exact ⟨_, Ent.refl _, fin⟩
  · replace hb := of_decide_eq_false hb
    have h10 : i = 10 := by omega
    subst h10
    exact ⟨_, Ent.refl _, off + 10, hoi, ⟨A, k, cap, xs, rfl, hk, hx, hg⟩, .inr ⟨hdec, rfl⟩⟩

end Go.Proofs.Ytoddabjacjkjbaa

namespace Go.Proofs.Ytoddabjacjkjbaa
open Go Go.RowKit

theorem ent_after (a b c d e : HA) (l : Hp) : Ent (([a] ++ l) ++ [b, c, d, e]) ([b, a, d] ++ l) := by
  have p1 : (([a] ++ l) ++ [b, c, d, e]).Perm (b :: c :: d :: e :: a :: l) := List.perm_append_comm
  have p2 : (b :: c :: d :: e :: a :: l).Perm (c :: e :: b :: a :: d :: l) :=
    (List.Perm.swap c b _).trans (List.Perm.cons c ((List.Perm.cons b ((List.Perm.swap e d _).trans (List.Perm.cons e (List.Perm.swap a d _)))).trans (List.Perm.swap e b _)))
  exact (Ent.perm (p1.trans p2)).trans (Ent.dropr [c, e] ([b, a, d] ++ l))

theorem dfrU_ok (R : Rd) (g b1 b2 b3 : Nat) (sl val : Value) (off last s e : Int) :
    FnD Try.prog 46 [.pointer (some ⟨b3, 0, .none⟩), .pointer (some ⟨b1, 0, .none⟩), .pointer (some ⟨b2, 0, .none⟩)]
      [.blk g 52 [sl, .int .i64 off, .int .i64 last, .int .i64 e], .blk b1 25 [.pointer (some ⟨g, 0, .none⟩)], .blk b2 31 [val], .blk b3 3 [.int .i64 s]] R
      (fun h' => h' = [.blk g 52 [sl, .int .i64 (if e = 0 then off else s), .int .i64 s, .int .i64 e], .blk b1 25 [.pointer (some ⟨g, 0, .none⟩)], .blk b2 31 [if e = 0 then val else Value.int .u64 0], .blk b3 3 [.int .i64 s]]) := by
  refine fnD_of_vc mixed tabOk Try.func46 rfl (by kernel_rfl) (Nat.le_of_ble_eq_true rfl) rfl ?_
  refine ⟨_, ld 1 rfl rfl, ?_⟩
  refine ⟨_, ld 3 rfl rfl, ?_⟩
  refine ⟨rfl, rfl, 0, rfl, rfl, Nat.le_of_ble_eq_true rfl, ?_⟩
  refine ⟨_, ld 1 rfl rfl, ?_⟩
  refine ⟨_, ld 0 rfl rfl, ?_⟩
  refine ⟨fun he => ?_, fun he => ?_⟩
  · have he : ¬ e = 0 := by simpa using he
    refine ⟨_, ld 1 rfl rfl, ?_⟩
    refine ⟨_, ld 3 rfl rfl, ?_⟩
    refine ⟨rfl, rfl, 0, rfl, rfl, Nat.le_of_ble_eq_true rfl, ?_⟩
    refine ⟨rfl, rfl, 2, rfl, rfl, Nat.le_of_ble_eq_true rfl, ?_⟩
    refine ⟨rfl, _, Ent.refl _, ?_⟩
    rw [if_neg he, if_neg he]
    rfl
  · have he : e = 0 := by simpa using he
    refine ⟨rfl, _, Ent.refl _, ?_⟩
    rw [if_pos he, if_pos he]
    rfl

set_option maxHeartbeats 4000000 in
theorem rvU_ok (R : Rd) (g : Nat) (data : List UInt8) (off last : Nat) (e : Int) (h : Hp) (hr : IsR g data off last e h) (fd : FuncId) (D : Int → Int → Nat → Hp → Prop)
    (hdec : e = 0 → ∀ (R' : Rd) (h1 : Hp), (∀ a v, R a v → R' a v) → IsR g data off last 0 h1 → Fn Try.prog fd ([.pointer (some ⟨g, 0, .none⟩)] ++ []) h1 R' (fun v h' => ∃ (x : Int) (err : Int) (off' : Nat) (h2 hx : Hp), v = .tuple ⟨[Value.int .u64 x, .int .i64 err]⟩ ∧ IsR g data off' last 0 h2 ∧ h' = h2 ++ hx ∧ D x err off' hx)) :
    Fn Try.prog 29 [.pointer (some ⟨g, 0, .none⟩), .func (.func fd) ⟨[.pointer (some ⟨g, 0, .none⟩)]⟩ ⟨[]⟩] h R (fun v h' =>
      (e ≠ 0 ∧ v = Value.int .u64 0 ∧ IsR g data off last e h') ∨
      (e = 0 ∧ ∃ (x : Int) (err : Int) (off' : Nat) (h2 hx : Hp), D x err off' hx ∧ ((err = 0 ∧ v = Value.int .u64 x ∧ IsR g data off' off 0 h2 ∧ h' = h2 ++ hx) ∨ (err ≠ 0 ∧ v = Value.int .u64 0 ∧ IsR g data off off err h')))) := by
  obtain ⟨A, k, cap, xs, rfl, hk, hxs, hg⟩ := hr
  refine fn_of_vc mixed tabOk Try.func29 rfl (by kernel_rfl) (Nat.le_of_ble_eq_true rfl) ?_
  intro b1 b2
  refine ⟨_, ld 2 rfl rfl, ?_⟩
  refine ⟨_, ld 0 rfl rfl, ?_⟩
  refine ⟨fun he => ?_, fun he => ?_⟩
  · have he : ¬ e = 0 := by simpa using he
    refine ⟨_, ld 3 rfl rfl, ?_⟩
    refine ⟨rfl, rfl, 3, rfl, rfl, Nat.le_of_ble_eq_true rfl, ?_⟩
    refine ⟨_, ld 3 rfl rfl, ?_⟩
    exact ⟨_, Ent.drop [_, _] [_, _], .inl ⟨he, rfl, A, k, cap, xs, rfl, hk, hxs, hg⟩⟩
  · have he : e = 0 := by simpa using he
    subst he
    refine ⟨_, ld 2 rfl rfl, ?_⟩
    refine ⟨_, ld 0 rfl rfl, ?_⟩
    intro b3
    refine ⟨rfl, rfl, 4, rfl, rfl, Nat.le_of_ble_eq_true rfl, ?_⟩
    refine ⟨[2, 3], (.q 0 (.q 1 (.one 2 (.q 3 (.q 4 (.q 5 (.one 6 (.q 7 (.q 8 (.one 9 .nil)))))))))), by kernel_rfl, ?_⟩
    refine ⟨_, ld 0 rfl rfl, ?_⟩
    refine ⟨[0, 0], _, hdec rfl _ _ (fun a v h => .inl (.inl h)) ⟨A, k, cap, xs, rfl, hk, hxs, hg⟩, ?_⟩
    rintro v' h' ⟨x, err, off', h2, hx, rfl, ⟨A', k', cap', xs', rfl, hk', hxs', hg'⟩, rfl, hD⟩
    refine ⟨rfl, rfl, 0, rfl, rfl, Nat.le_of_ble_eq_true rfl, ?_⟩
    refine ⟨rfl, rfl, 1, rfl, rfl, Nat.le_of_ble_eq_true rfl, ?_⟩
    refine ⟨_, ld 2 rfl rfl, ?_⟩
    refine ⟨rfl, rfl, 2, rfl, rfl, Nat.le_of_ble_eq_true rfl, ?_⟩
    refine ⟨[3, 0, 1, 0], _, dfrU_ok _ g b1 b2 b3 _ _ _ _ _ err, ?_⟩
    rintro h' rfl
    refine ⟨_, ent_after _ _ _ _ _ hx, ?_⟩
    by_cases herr : err = 0
    · subst herr
      refine ⟨_, ld 2 rfl rfl, ?_⟩
      refine ⟨_, (Ent.perm (List.perm_append_comm (l₁ := [_, _]) (l₂ := _ :: hx))).trans ((Ent.dropr [_] (hx ++ [_, _])).trans (Ent.perm List.perm_append_comm)), .inr ⟨rfl, x, 0, off', _, hx, hD, .inl ⟨rfl, rfl, ⟨A', k', cap', xs', rfl, hk', hxs', hg'⟩, rfl⟩⟩⟩
    · rw [if_neg herr, if_neg herr]
      refine ⟨_, ld 2 rfl rfl, ?_⟩
      exact ⟨_, Ent.drop [_, _] (_ :: hx), .inr ⟨rfl, x, err, off', [], hx, hD, .inr ⟨herr, rfl, A', k', cap', xs', rfl, hk', hxs', hg'⟩⟩⟩

theorem dfrB_ok (R : Rd) (g b1 b2 b3 : Nat) (sl val : Value) (off last s e : Int) :
    FnD Try.prog 47 [.pointer (some ⟨b3, 0, .none⟩), .pointer (some ⟨b1, 0, .none⟩), .pointer (some ⟨b2, 0, .none⟩)]
      [.blk g 52 [sl, .int .i64 off, .int .i64 last, .int .i64 e], .blk b1 25 [.pointer (some ⟨g, 0, .none⟩)], .blk b2 4 [val], .blk b3 3 [.int .i64 s]] R
      (fun h' => h' = [.blk g 52 [sl, .int .i64 (if e = 0 then off else s), .int .i64 s, .int .i64 e], .blk b1 25 [.pointer (some ⟨g, 0, .none⟩)], .blk b2 4 [if e = 0 then val else Value.bool false], .blk b3 3 [.int .i64 s]]) := by
  refine fnD_of_vc mixed tabOk Try.func47 rfl (by kernel_rfl) (Nat.le_of_ble_eq_true rfl) rfl ?_
  refine ⟨_, ld 1 rfl rfl, ?_⟩
  refine ⟨_, ld 3 rfl rfl, ?_⟩
  refine ⟨rfl, rfl, 0, rfl, rfl, Nat.le_of_ble_eq_true rfl, ?_⟩
  refine ⟨_, ld 1 rfl rfl, ?_⟩
  refine ⟨_, ld 0 rfl rfl, ?_⟩
  refine ⟨fun he => ?_, fun he => ?_⟩
  · have he : ¬ e = 0 := by simpa using he
    refine ⟨_, ld 1 rfl rfl, ?_⟩
    refine ⟨_, ld 3 rfl rfl, ?_⟩
    refine ⟨rfl, rfl, 0, rfl, rfl, Nat.le_of_ble_eq_true rfl, ?_⟩
    refine ⟨rfl, rfl, 2, rfl, rfl, Nat.le_of_ble_eq_true rfl, ?_⟩
    refine ⟨rfl, _, Ent.refl _, ?_⟩
    rw [if_neg he, if_neg he]
    rfl
  · have he : e = 0 := by simpa using he
    refine ⟨rfl, _, Ent.refl _, ?_⟩
    rw [if_pos he, if_pos he]
    rfl

set_option maxHeartbeats 4000000 in
theorem rvB_ok (R : Rd) (g : Nat) (data : List UInt8) (off last : Nat) (e : Int) (h : Hp) (hr : IsR g data off last e h) (fd : FuncId) (cs : List Value) (D : Bool → Int → Nat → Hp → Prop)
    (hdec : e = 0 → ∀ (R' : Rd) (h1 : Hp), (∀ a v, R a v → R' a v) → IsR g data off last 0 h1 → Fn Try.prog fd ([] ++ cs) h1 R' (fun v h' => ∃ (x : Bool) (err : Int) (off' : Nat) (h2 hx : Hp), v = .tuple ⟨[Value.bool x, .int .i64 err]⟩ ∧ IsR g data off' last 0 h2 ∧ h' = h2 ++ hx ∧ D x err off' hx)) :
    Fn Try.prog 31 [.pointer (some ⟨g, 0, .none⟩), .func (.func fd) ⟨[]⟩ ⟨cs⟩] h R (fun v h' =>
      (e ≠ 0 ∧ v = Value.bool false ∧ IsR g data off last e h') ∨
      (e = 0 ∧ ∃ (x : Bool) (err : Int) (off' : Nat) (h2 hx : Hp), D x err off' hx ∧ ((err = 0 ∧ v = Value.bool x ∧ IsR g data off' off 0 h2 ∧ h' = h2 ++ hx) ∨ (err ≠ 0 ∧ v = Value.bool false ∧ IsR g data off off err h')))) := by
  obtain ⟨A, k, cap, xs, rfl, hk, hxs, hg⟩ := hr
  refine fn_of_vc mixed tabOk Try.func31 rfl (by kernel_rfl) (Nat.le_of_ble_eq_true rfl) ?_
  intro b1 b2
  refine ⟨_, ld 2 rfl rfl, ?_⟩
  refine ⟨_, ld 0 rfl rfl, ?_⟩
  refine ⟨fun he => ?_, fun he => ?_⟩
  · have he : ¬ e = 0 := by simpa using he
    refine ⟨_, ld 3 rfl rfl, ?_⟩
    refine ⟨rfl, rfl, 3, rfl, rfl, Nat.le_of_ble_eq_true rfl, ?_⟩
    refine ⟨_, ld 3 rfl rfl, ?_⟩
    exact ⟨_, Ent.drop [_, _] [_, _], .inl ⟨he, rfl, A, k, cap, xs, rfl, hk, hxs, hg⟩⟩
  · have he : e = 0 := by simpa using he
    subst he
    refine ⟨_, ld 2 rfl rfl, ?_⟩
    refine ⟨_, ld 0 rfl rfl, ?_⟩
    intro b3
    refine ⟨rfl, rfl, 4, rfl, rfl, Nat.le_of_ble_eq_true rfl, ?_⟩
    refine ⟨[2, 3], (.q 0 (.q 1 (.one 2 (.q 3 (.q 4 (.q 5 (.one 6 (.q 7 (.q 8 (.one 9 .nil)))))))))), by kernel_rfl, ?_⟩
    refine ⟨_, ld 0 rfl rfl, ?_⟩
    refine ⟨[0, 0], _, hdec rfl _ _ (fun a v h => .inl (.inl h)) ⟨A, k, cap, xs, rfl, hk, hxs, hg⟩, ?_⟩
    rintro v' h' ⟨x, err, off', h2, hx, rfl, ⟨A', k', cap', xs', rfl, hk', hxs', hg'⟩, rfl, hD⟩
    refine ⟨rfl, rfl, 0, rfl, rfl, Nat.le_of_ble_eq_true rfl, ?_⟩
    refine ⟨rfl, rfl, 1, rfl, rfl, Nat.le_of_ble_eq_true rfl, ?_⟩
    refine ⟨_, ld 2 rfl rfl, ?_⟩
    refine ⟨rfl, rfl, 2, rfl, rfl, Nat.le_of_ble_eq_true rfl, ?_⟩
    refine ⟨[3, 0, 1, 0], _, dfrB_ok _ g b1 b2 b3 _ _ _ _ _ err, ?_⟩
    rintro h' rfl
    refine ⟨_, ent_after _ _ _ _ _ hx, ?_⟩
    by_cases herr : err = 0
    · subst herr
      refine ⟨_, ld 2 rfl rfl, ?_⟩
      refine ⟨_, (Ent.perm (List.perm_append_comm (l₁ := [_, _]) (l₂ := _ :: hx))).trans ((Ent.dropr [_] (hx ++ [_, _])).trans (Ent.perm List.perm_append_comm)), .inr ⟨rfl, x, 0, off', _, hx, hD, .inl ⟨rfl, rfl, ⟨A', k', cap', xs', rfl, hk', hxs', hg'⟩, rfl⟩⟩⟩
    · rw [if_neg herr, if_neg herr]
      refine ⟨_, ld 2 rfl rfl, ?_⟩
      exact ⟨_, Ent.drop [_, _] (_ :: hx), .inr ⟨rfl, x, err, off', [], hx, hD, .inr ⟨herr, rfl, A', k', cap', xs', rfl, hk', hxs', hg'⟩⟩⟩

theorem dfrS_ok (R : Rd) (g b1 b2 b3 : Nat) (sl val : Value) (off last s e : Int) :
    FnD Try.prog 49 [.pointer (some ⟨b3, 0, .none⟩), .pointer (some ⟨b1, 0, .none⟩), .pointer (some ⟨b2, 0, .none⟩)]
      [.blk g 52 [sl, .int .i64 off, .int .i64 last, .int .i64 e], .blk b1 25 [.pointer (some ⟨g, 0, .none⟩)], .blk b2 9 [val], .blk b3 3 [.int .i64 s]] R
      (fun h' => h' = [.blk g 52 [sl, .int .i64 (if e = 0 then off else s), .int .i64 s, .int .i64 e], .blk b1 25 [.pointer (some ⟨g, 0, .none⟩)], .blk b2 9 [if e = 0 then val else Value.string ⟨#[]⟩], .blk b3 3 [.int .i64 s]]) := by
  refine fnD_of_vc mixed tabOk Try.func49 rfl (by kernel_rfl) (Nat.le_of_ble_eq_true rfl) rfl ?_
  refine ⟨_, ld 1 rfl rfl, ?_⟩
  refine ⟨_, ld 3 rfl rfl, ?_⟩
  refine ⟨rfl, rfl, 0, rfl, rfl, Nat.le_of_ble_eq_true rfl, ?_⟩
  refine ⟨_, ld 1 rfl rfl, ?_⟩
  refine ⟨_, ld 0 rfl rfl, ?_⟩
  refine ⟨fun he => ?_, fun he => ?_⟩
  · have he : ¬ e = 0 := by simpa using he
    refine ⟨_, ld 1 rfl rfl, ?_⟩
    refine ⟨_, ld 3 rfl rfl, ?_⟩
    refine ⟨rfl, rfl, 0, rfl, rfl, Nat.le_of_ble_eq_true rfl, ?_⟩
    refine ⟨rfl, rfl, 2, rfl, rfl, Nat.le_of_ble_eq_true rfl, ?_⟩
    refine ⟨rfl, _, Ent.refl _, ?_⟩
    rw [if_neg he, if_neg he]
    rfl
  · have he : e = 0 := by simpa using he
    refine ⟨rfl, _, Ent.refl _, ?_⟩
    rw [if_pos he, if_pos he]
    rfl

set_option maxHeartbeats 4000000 in
theorem rvS_ok (R : Rd) (g : Nat) (data : List UInt8) (off last : Nat) (e : Int) (h : Hp) (hr : IsR g data off last e h) (fd : FuncId) (cs : List Value) (D : ByteArray → Int → Nat → Hp → Prop)
    (hdec : e = 0 → ∀ (R' : Rd) (h1 : Hp), (∀ a v, R a v → R' a v) → IsR g data off last 0 h1 → Fn Try.prog fd ([] ++ cs) h1 R' (fun v h' => ∃ (x : ByteArray) (err : Int) (off' : Nat) (h2 hx : Hp), v = .tuple ⟨[Value.string x, .int .i64 err]⟩ ∧ IsR g data off' last 0 h2 ∧ h' = h2 ++ hx ∧ D x err off' hx)) :
    Fn Try.prog 37 [.pointer (some ⟨g, 0, .none⟩), .func (.func fd) ⟨[]⟩ ⟨cs⟩] h R (fun v h' =>
      (e ≠ 0 ∧ v = Value.string ⟨#[]⟩ ∧ IsR g data off last e h') ∨
      (e = 0 ∧ ∃ (x : ByteArray) (err : Int) (off' : Nat) (h2 hx : Hp), D x err off' hx ∧ ((err = 0 ∧ v = Value.string x ∧ IsR g data off' off 0 h2 ∧ h' = h2 ++ hx) ∨ (err ≠ 0 ∧ v = Value.string ⟨#[]⟩ ∧ IsR g data off off err h')))) := by
  obtain ⟨A, k, cap, xs, rfl, hk, hxs, hg⟩ := hr
  refine fn_of_vc mixed tabOk Try.func37 rfl (by kernel_rfl) (Nat.le_of_ble_eq_true rfl) ?_
  intro b1 b2
  refine ⟨_, ld 2 rfl rfl, ?_⟩
  refine ⟨_, ld 0 rfl rfl, ?_⟩
  refine ⟨fun he => ?_, fun he => ?_⟩
  · have he : ¬ e = 0 := by simpa using he
    refine ⟨_, ld 3 rfl rfl, ?_⟩
    refine ⟨rfl, rfl, 3, rfl, rfl, Nat.le_of_ble_eq_true rfl, ?_⟩
    refine ⟨_, ld 3 rfl rfl, ?_⟩
    exact ⟨_, Ent.drop [_, _] [_, _], .inl ⟨he, rfl, A, k, cap, xs, rfl, hk, hxs, hg⟩⟩
  · have he : e = 0 := by simpa using he
    subst he
    refine ⟨_, ld 2 rfl rfl, ?_⟩
    refine ⟨_, ld 0 rfl rfl, ?_⟩
    intro b3
    refine ⟨rfl, rfl, 4, rfl, rfl, Nat.le_of_ble_eq_true rfl, ?_⟩
    refine ⟨[2, 3], (.q 0 (.q 1 (.one 2 (.q 3 (.q 4 (.q 5 (.one 6 (.q 7 (.q 8 (.one 9 .nil)))))))))), by kernel_rfl, ?_⟩
    refine ⟨_, ld 0 rfl rfl, ?_⟩
    refine ⟨[0, 0], _, hdec rfl _ _ (fun a v h => .inl (.inl h)) ⟨A, k, cap, xs, rfl, hk, hxs, hg⟩, ?_⟩
    rintro v' h' ⟨x, err, off', h2, hx, rfl, ⟨A', k', cap', xs', rfl, hk', hxs', hg'⟩, rfl, hD⟩
    refine ⟨rfl, rfl, 0, rfl, rfl, Nat.le_of_ble_eq_true rfl, ?_⟩
    refine ⟨rfl, rfl, 1, rfl, rfl, Nat.le_of_ble_eq_true rfl, ?_⟩
    refine ⟨_, ld 2 rfl rfl, ?_⟩
    refine ⟨rfl, rfl, 2, rfl, rfl, Nat.le_of_ble_eq_true rfl, ?_⟩
    refine ⟨[3, 0, 1, 0], _, dfrS_ok _ g b1 b2 b3 _ _ _ _ _ err, ?_⟩
    rintro h' rfl
    refine ⟨_, ent_after _ _ _ _ _ hx, ?_⟩
    by_cases herr : err = 0
    · subst herr
      refine ⟨_, ld 2 rfl rfl, ?_⟩
      refine ⟨_, (Ent.perm (List.perm_append_comm (l₁ := [_, _]) (l₂ := _ :: hx))).trans ((Ent.dropr [_] (hx ++ [_, _])).trans (Ent.perm List.perm_append_comm)), .inr ⟨rfl, x, 0, off', _, hx, hD, .inl ⟨rfl, rfl, ⟨A', k', cap', xs', rfl, hk', hxs', hg'⟩, rfl⟩⟩⟩
    · rw [if_neg herr, if_neg herr]
      refine ⟨_, ld 2 rfl rfl, ?_⟩
      exact ⟨_, Ent.drop [_, _] (_ :: hx), .inr ⟨rfl, x, err, off', [], hx, hD, .inr ⟨herr, rfl, A', k', cap', xs', rfl, hk', hxs', hg'⟩⟩⟩

theorem dfrI_ok (R : Rd) (g b1 b2 b3 : Nat) (sl val : Value) (off last s e : Int) :
    FnD Try.prog 50 [.pointer (some ⟨b3, 0, .none⟩), .pointer (some ⟨b1, 0, .none⟩), .pointer (some ⟨b2, 0, .none⟩)]
      [.blk g 52 [sl, .int .i64 off, .int .i64 last, .int .i64 e], .blk b1 25 [.pointer (some ⟨g, 0, .none⟩)], .blk b2 3 [val], .blk b3 3 [.int .i64 s]] R
      (fun h' => h' = [.blk g 52 [sl, .int .i64 (if e = 0 then off else s), .int .i64 s, .int .i64 e], .blk b1 25 [.pointer (some ⟨g, 0, .none⟩)], .blk b2 3 [if e = 0 then val else Value.int .i64 0], .blk b3 3 [.int .i64 s]]) := by
  refine fnD_of_vc mixed tabOk Try.func50 rfl (by kernel_rfl) (Nat.le_of_ble_eq_true rfl) rfl ?_
  refine ⟨_, ld 1 rfl rfl, ?_⟩
  refine ⟨_, ld 3 rfl rfl, ?_⟩
  refine ⟨rfl, rfl, 0, rfl, rfl, Nat.le_of_ble_eq_true rfl, ?_⟩
  refine ⟨_, ld 1 rfl rfl, ?_⟩
  refine ⟨_, ld 0 rfl rfl, ?_⟩
  refine ⟨fun he => ?_, fun he => ?_⟩
  · have he : ¬ e = 0 := by simpa using he
    refine ⟨_, ld 1 rfl rfl, ?_⟩
    refine ⟨_, ld 3 rfl rfl, ?_⟩
    refine ⟨rfl, rfl, 0, rfl, rfl, Nat.le_of_ble_eq_true rfl, ?_⟩
    refine ⟨rfl, rfl, 2, rfl, rfl, Nat.le_of_ble_eq_true rfl, ?_⟩
    refine ⟨rfl, _, Ent.refl _, ?_⟩
    rw [if_neg he, if_neg he]
    rfl
  · have he : e = 0 := by simpa using he
    refine ⟨rfl, _, Ent.refl _, ?_⟩
    rw [if_pos he, if_pos he]
    rfl

set_option maxHeartbeats 4000000 in
theorem rvI_ok (R : Rd) (g : Nat) (data : List UInt8) (off last : Nat) (e : Int) (h : Hp) (hr : IsR g data off last e h) (fd : FuncId) (cs : List Value) (D : Int → Int → Nat → Hp → Prop)
    (hdec : e = 0 → ∀ (R' : Rd) (h1 : Hp), (∀ a v, R a v → R' a v) → IsR g data off last 0 h1 → Fn Try.prog fd ([] ++ cs) h1 R' (fun v h' => ∃ (x : Int) (err : Int) (off' : Nat) (h2 hx : Hp), v = .tuple ⟨[Value.int .i64 x, .int .i64 err]⟩ ∧ IsR g data off' last 0 h2 ∧ h' = h2 ++ hx ∧ D x err off' hx)) :
    Fn Try.prog 41 [.pointer (some ⟨g, 0, .none⟩), .func (.func fd) ⟨[]⟩ ⟨cs⟩] h R (fun v h' =>
      (e ≠ 0 ∧ v = Value.int .i64 0 ∧ IsR g data off last e h') ∨
      (e = 0 ∧ ∃ (x : Int) (err : Int) (off' : Nat) (h2 hx : Hp), D x err off' hx ∧ ((err = 0 ∧ v = Value.int .i64 x ∧ IsR g data off' off 0 h2 ∧ h' = h2 ++ hx) ∨ (err ≠ 0 ∧ v = Value.int .i64 0 ∧ IsR g data off off err h')))) := by
  obtain ⟨A, k, cap, xs, rfl, hk, hxs, hg⟩ := hr
  refine fn_of_vc mixed tabOk Try.func41 rfl (by kernel_rfl) (Nat.le_of_ble_eq_true rfl) ?_
  intro b1 b2
  refine ⟨_, ld 2 rfl rfl, ?_⟩
  refine ⟨_, ld 0 rfl rfl, ?_⟩
  refine ⟨fun he => ?_, fun he => ?_⟩
  · have he : ¬ e = 0 := by simpa using he
    refine ⟨_, ld 3 rfl rfl, ?_⟩
    refine ⟨rfl, rfl, 3, rfl, rfl, Nat.le_of_ble_eq_true rfl, ?_⟩
    refine ⟨_, ld 3 rfl rfl, ?_⟩
    exact ⟨_, Ent.drop [_, _] [_, _], .inl ⟨he, rfl, A, k, cap, xs, rfl, hk, hxs, hg⟩⟩
  · have he : e = 0 := by simpa using he
    subst he
    refine ⟨_, ld 2 rfl rfl, ?_⟩
    refine ⟨_, ld 0 rfl rfl, ?_⟩
    intro b3
    refine ⟨rfl, rfl, 4, rfl, rfl, Nat.le_of_ble_eq_true rfl, ?_⟩
    refine ⟨[2, 3], (.q 0 (.q 1 (.one 2 (.q 3 (.q 4 (.q 5 (.one 6 (.q 7 (.q 8 (.one 9 .nil)))))))))), by kernel_rfl, ?_⟩
    refine ⟨_, ld 0 rfl rfl, ?_⟩
    refine ⟨[0, 0], _, hdec rfl _ _ (fun a v h => .inl (.inl h)) ⟨A, k, cap, xs, rfl, hk, hxs, hg⟩, ?_⟩
    rintro v' h' ⟨x, err, off', h2, hx, rfl, ⟨A', k', cap', xs', rfl, hk', hxs', hg'⟩, rfl, hD⟩
    refine ⟨rfl, rfl, 0, rfl, rfl, Nat.le_of_ble_eq_true rfl, ?_⟩
    refine ⟨rfl, rfl, 1, rfl, rfl, Nat.le_of_ble_eq_true rfl, ?_⟩
    refine ⟨_, ld 2 rfl rfl, ?_⟩
    refine ⟨rfl, rfl, 2, rfl, rfl, Nat.le_of_ble_eq_true rfl, ?_⟩
    refine ⟨[3, 0, 1, 0], _, dfrI_ok _ g b1 b2 b3 _ _ _ _ _ err, ?_⟩
    rintro h' rfl
    refine ⟨_, ent_after _ _ _ _ _ hx, ?_⟩
    by_cases herr : err = 0
    · subst herr
      refine ⟨_, ld 2 rfl rfl, ?_⟩
      refine ⟨_, (Ent.perm (List.perm_append_comm (l₁ := [_, _]) (l₂ := _ :: hx))).trans ((Ent.dropr [_] (hx ++ [_, _])).trans (Ent.perm List.perm_append_comm)), .inr ⟨rfl, x, 0, off', _, hx, hD, .inl ⟨rfl, rfl, ⟨A', k', cap', xs', rfl, hk', hxs', hg'⟩, rfl⟩⟩⟩
    · rw [if_neg herr, if_neg herr]
      refine ⟨_, ld 2 rfl rfl, ?_⟩
      exact ⟨_, Ent.drop [_, _] (_ :: hx), .inr ⟨rfl, x, err, off', [], hx, hD, .inr ⟨herr, rfl, A', k', cap', xs', rfl, hk', hxs', hg'⟩⟩⟩

theorem dfrY_ok (R : Rd) (g b1 b2 b3 : Nat) (sl val : Value) (off last s e : Int) :
    FnD Try.prog 48 [.pointer (some ⟨b3, 0, .none⟩), .pointer (some ⟨b1, 0, .none⟩), .pointer (some ⟨b2, 0, .none⟩)]
      [.blk g 52 [sl, .int .i64 off, .int .i64 last, .int .i64 e], .blk b1 25 [.pointer (some ⟨g, 0, .none⟩)], .blk b2 22 [val], .blk b3 3 [.int .i64 s]] R
      (fun h' => h' = [.blk g 52 [sl, .int .i64 (if e = 0 then off else s), .int .i64 s, .int .i64 e], .blk b1 25 [.pointer (some ⟨g, 0, .none⟩)], .blk b2 22 [if e = 0 then val else Value.slice .none 0 0], .blk b3 3 [.int .i64 s]]) := by
  refine fnD_of_vc mixed tabOk Try.func48 rfl (by kernel_rfl) (Nat.le_of_ble_eq_true rfl) rfl ?_
  refine ⟨_, ld 1 rfl rfl, ?_⟩
  refine ⟨_, ld 3 rfl rfl, ?_⟩
  refine ⟨rfl, rfl, 0, rfl, rfl, Nat.le_of_ble_eq_true rfl, ?_⟩
  refine ⟨_, ld 1 rfl rfl, ?_⟩
  refine ⟨_, ld 0 rfl rfl, ?_⟩
  refine ⟨fun he => ?_, fun he => ?_⟩
  · have he : ¬ e = 0 := by simpa using he
    refine ⟨_, ld 1 rfl rfl, ?_⟩
    refine ⟨_, ld 3 rfl rfl, ?_⟩
    refine ⟨rfl, rfl, 0, rfl, rfl, Nat.le_of_ble_eq_true rfl, ?_⟩
    refine ⟨rfl, rfl, 2, rfl, rfl, Nat.le_of_ble_eq_true rfl, ?_⟩
    refine ⟨rfl, _, Ent.refl _, ?_⟩
    rw [if_neg he, if_neg he]
    rfl
  · have he : e = 0 := by simpa using he
    refine ⟨rfl, _, Ent.refl _, ?_⟩
    rw [if_pos he, if_pos he]
    rfl

set_option maxHeartbeats 4000000 in
theorem rvY_ok (R : Rd) (g : Nat) (data : List UInt8) (off last : Nat) (e : Int) (h : Hp) (hr : IsR g data off last e h) (fd : FuncId) (cs : List Value) (D : Option Addr × Nat × Nat → Int → Nat → Hp → Prop)
    (hdec : e = 0 → ∀ (R' : Rd) (h1 : Hp), (∀ a v, R a v → R' a v) → IsR g data off last 0 h1 → Fn Try.prog fd ([] ++ cs) h1 R' (fun v h' => ∃ (x : Option Addr × Nat × Nat) (err : Int) (off' : Nat) (h2 hx : Hp), v = .tuple ⟨[Value.slice x.1 x.2.1 x.2.2, .int .i64 err]⟩ ∧ IsR g data off' last 0 h2 ∧ h' = h2 ++ hx ∧ D x err off' hx)) :
    Fn Try.prog 34 [.pointer (some ⟨g, 0, .none⟩), .func (.func fd) ⟨[]⟩ ⟨cs⟩] h R (fun v h' =>
      (e ≠ 0 ∧ v = Value.slice .none 0 0 ∧ IsR g data off last e h') ∨
      (e = 0 ∧ ∃ (x : Option Addr × Nat × Nat) (err : Int) (off' : Nat) (h2 hx : Hp), D x err off' hx ∧ ((err = 0 ∧ v = Value.slice x.1 x.2.1 x.2.2 ∧ IsR g data off' off 0 h2 ∧ h' = h2 ++ hx) ∨ (err ≠ 0 ∧ v = Value.slice .none 0 0 ∧ IsR g data off off err h')))) := by
  obtain ⟨A, k, cap, xs, rfl, hk, hxs, hg⟩ := hr
  refine fn_of_vc mixed tabOk Try.func34 rfl (by kernel_rfl) (Nat.le_of_ble_eq_true rfl) ?_
  intro b1 b2
  refine ⟨_, ld 2 rfl rfl, ?_⟩
  refine ⟨_, ld 0 rfl rfl, ?_⟩
  refine ⟨fun he => ?_, fun he => ?_⟩
  · have he : ¬ e = 0 := by simpa using he
    refine ⟨_, ld 3 rfl rfl, ?_⟩
    refine ⟨rfl, rfl, 3, rfl, rfl, Nat.le_of_ble_eq_true rfl, ?_⟩
    refine ⟨_, ld 3 rfl rfl, ?_⟩
    exact ⟨_, Ent.drop [_, _] [_, _], .inl ⟨he, rfl, A, k, cap, xs, rfl, hk, hxs, hg⟩⟩
  · have he : e = 0 := by simpa using he
    subst he
    refine ⟨_, ld 2 rfl rfl, ?_⟩
    refine ⟨_, ld 0 rfl rfl, ?_⟩
    intro b3
    refine ⟨rfl, rfl, 4, rfl, rfl, Nat.le_of_ble_eq_true rfl, ?_⟩
    refine ⟨[2, 3], (.q 0 (.q 1 (.one 2 (.q 3 (.q 4 (.q 5 (.one 6 (.q 7 (.q 8 (.one 9 .nil)))))))))), by kernel_rfl, ?_⟩
    refine ⟨_, ld 0 rfl rfl, ?_⟩
    refine ⟨[0, 0], _, hdec rfl _ _ (fun a v h => .inl (.inl h)) ⟨A, k, cap, xs, rfl, hk, hxs, hg⟩, ?_⟩
    rintro v' h' ⟨x, err, off', h2, hx, rfl, ⟨A', k', cap', xs', rfl, hk', hxs', hg'⟩, rfl, hD⟩
    refine ⟨rfl, rfl, 0, rfl, rfl, Nat.le_of_ble_eq_true rfl, ?_⟩
    refine ⟨rfl, rfl, 1, rfl, rfl, Nat.le_of_ble_eq_true rfl, ?_⟩
    refine ⟨_, ld 2 rfl rfl, ?_⟩
    refine ⟨rfl, rfl, 2, rfl, rfl, Nat.le_of_ble_eq_true rfl, ?_⟩
    refine ⟨[3, 0, 1, 0], _, dfrY_ok _ g b1 b2 b3 _ _ _ _ _ err, ?_⟩
    rintro h' rfl
    refine ⟨_, ent_after _ _ _ _ _ hx, ?_⟩
    by_cases herr : err = 0
    · subst herr
      refine ⟨_, ld 2 rfl rfl, ?_⟩
      refine ⟨_, (Ent.perm (List.perm_append_comm (l₁ := [_, _]) (l₂ := _ :: hx))).trans ((Ent.dropr [_] (hx ++ [_, _])).trans (Ent.perm List.perm_append_comm)), .inr ⟨rfl, x, 0, off', _, hx, hD, .inl ⟨rfl, rfl, ⟨A', k', cap', xs', rfl, hk', hxs', hg'⟩, rfl⟩⟩⟩
    · rw [if_neg herr, if_neg herr]
      refine ⟨_, ld 2 rfl rfl, ?_⟩
      exact ⟨_, Ent.drop [_, _] (_ :: hx), .inr ⟨rfl, x, err, off', [], hx, hD, .inr ⟨herr, rfl, A', k', cap', xs', rfl, hk', hxs', hg'⟩⟩⟩

end Go.Proofs.Ytoddabjacjkjbaa

namespace Go.Proofs.Ytoddabjacjkjbaa
open Go Go.RowKit

/-- A number of at most 'most': the error, the number, what is left. -/
def limD (most : Int) (l : List UInt8) : Int × Nat × List UInt8 :=
  match dec l with
  | .none => (3, 0, [])
  | some (n, r) => if max most 0 < (n : Int) then (2, 0, []) else (0, n, r)

theorem dec_len {l : List UInt8} {n : Nat} {r : List UInt8} (h : dec l = some (n, r)) : l.length = usize n + r.length := by
  have := congrArg List.length (dec_iff.1 h).1
  simp only [List.length_append, length_num] at this
  exact this

theorem limited_ok (R : Rd) (g : Nat) (data : List UInt8) (off last : Nat) (e : Int) (h : Hp) (most : Int) (hm1 : most ≤ 9223372036854775807) (ho : off ≤ data.length) (hd : data.length ≤ 9000000000000000000) (hr : IsR g data off last e h) :
    Fn Try.prog 43 [.pointer (some ⟨g, 0, .none⟩), .int .i64 most] h R (fun v h' => ∃ off', off' ≤ data.length ∧ IsR g data off' last e h' ∧
      v = .tuple ⟨[.int .i64 (limD most (data.drop off)).2.1, .int .i64 (limD most (data.drop off)).1]⟩ ∧ ((limD most (data.drop off)).1 = 0 → off' + (limD most (data.drop off)).2.2.length = data.length)) := by
  obtain ⟨A, k, cap, xs, rfl, hk, hx, hg⟩ := hr
  refine fn_of_vc mixed tabOk Try.func43 rfl (by kernel_rfl) (Nat.le_of_ble_eq_true rfl) ?_
  refine ⟨[0, 0], _, number_ok _ g data off last e _ ho hd ⟨A, k, cap, xs, rfl, hk, hx, hg⟩, ?_⟩
  rintro v h' ⟨off', hle, ⟨A', k', cap', xs', rfl, hk', hx', hg'⟩, hcase⟩
  rcases hcase with ⟨n, r, hdec, rfl, hoff⟩ | ⟨hdec, rfl⟩
  · have hn := (dec_iff.1 hdec).2
    have hln := dec_len hdec
    rw [List.length_drop] at hln
    refine ⟨fun hb => absurd hb (by simp), fun hb => ?_⟩
    intro z hz; subst hz
    intro z hz; obtain rfl := wr_u64 hz (by omega) (by omega); clear hz
    refine ⟨fun hb => ?_, fun hb => ?_⟩
    · replace hb := of_decide_eq_true hb
      refine ⟨_, Ent.refl _, off', hle, ⟨A', k', cap', xs', rfl, hk', hx', hg'⟩, ?_, ?_⟩
      · rw [limD, hdec]
        simp only [if_pos hb]
        rfl
      · rw [limD, hdec]
        simp only [if_pos hb]
        omega
    · replace hb := of_decide_eq_false hb
      have : max most 0 ≤ 9223372036854775807 := by omega
      (intro z hz; obtain rfl := wr_i64 hz (by omega) (by omega); clear hz)
      refine ⟨_, Ent.refl _, off', hle, ⟨A', k', cap', xs', rfl, hk', hx', hg'⟩, ?_, ?_⟩
      · rw [limD, hdec]
        simp only [if_neg hb]
        rfl
      · rw [limD, hdec]
        simp only [if_neg hb]
        intro _
        omega
  · refine ⟨fun hb => ?_, fun hb => absurd hb (by simp)⟩
    refine ⟨_, Ent.refl _, off', hle, ⟨A', k', cap', xs', rfl, hk', hx', hg'⟩, ?_, ?_⟩
    · rw [limD, hdec]; rfl
    · rw [limD, hdec]; simp

/-- A reader, its memory spelled out. -/
def rdH (g : Nat) (A : Option Addr) (k cap : Nat) (xs : List Value) (off last : Nat) (e : Int) : Hp :=
  [.blk g 52 [.slice A k cap, .int .i64 off, .int .i64 last, .int .i64 e], .row A k cap 5 1 xs (0, 0)]

theorem take_ok (R : Rd) (g : Nat) (data : List UInt8) (A : Option Addr) (k cap : Nat) (xs : List Value) (off last : Nat) (e : Int) (hk : k = data.length) (n : Nat) (hn : n ≤ 9223372036854775807) (ho : off ≤ data.length) (hd : data.length ≤ 9000000000000000000) :
    Fn Try.prog 40 [.pointer (some ⟨g, 0, .none⟩), .int .i64 n] (rdH g A k cap xs off last e) R (fun v h' =>
      (data.length - off < n ∧ v = .tuple ⟨[.slice .none 0 0, .int .i64 3]⟩ ∧ h' = rdH g A k cap xs off last e) ∨
      (n ≤ data.length - off ∧ k ≤ cap ∧ v = .tuple ⟨[.slice (sliceBase A cap off 1) n (cap - off), .int .i64 0]⟩ ∧ h' = rdH g A k cap xs (off + n) last e)) := by
  refine fn_pure (callable Try.func40 rfl (by kernel_rfl)) (p := k ≤ cap) (fun w o => (row_cap o 1 rfl).1) fun hcap => ?_
  refine fn_of_vc mixed tabOk Try.func40 rfl (by kernel_rfl) (Nat.le_of_ble_eq_true rfl) ?_
  refine ⟨[0], lexT 0 12, by kernel_rfl, ?_⟩
  refine ⟨_, ld 0 rfl rfl, ?_⟩
  refine ⟨_, ld 0 rfl rfl, ?_⟩
  (intro z hz; obtain rfl := wr_i64 hz (by omega) (by omega); clear hz)
  refine ⟨fun hb => ?_, fun hb => ?_⟩
  · replace hb := of_decide_eq_true hb
    exact ⟨_, Ent.refl _, .inl ⟨by omega, rfl, rfl⟩⟩
  · replace hb := of_decide_eq_false hb
    refine ⟨[0], lexT 0 16, by kernel_rfl, ?_⟩
    refine ⟨_, ld 0 rfl rfl, ?_⟩
    refine ⟨_, ld 0 rfl rfl, ?_⟩
    refine ⟨_, ld 0 rfl rfl, ?_⟩
    (intro z hz; obtain rfl := wr_i64 hz (by omega) (by omega); clear hz)
    refine ⟨off, off + n, rfl, rfl, by omega, by omega, ?_⟩
    refine ⟨_, ld 0 rfl rfl, ?_⟩
    (intro z hz; obtain rfl := wr_i64 hz (by omega) (by omega); clear hz)
    refine ⟨rfl, rfl, 0, rfl, rfl, Nat.le_of_ble_eq_true rfl, ?_⟩
    refine ⟨_, Ent.refl _, .inr ⟨by omega, hcap, ?_, rfl⟩⟩
    show Value.tuple ⟨[.slice _ (off + n - off) _, _]⟩ = _
    rw [Nat.add_sub_cancel_left]
    rfl

/-- The bytes of a block of at most 'most': the error, the bytes, what is left. -/
def blkD (most : Int) (l : List UInt8) : Int × List UInt8 × List UInt8 :=
  if (limD most l).1 = 0 then
    if (limD most l).2.2.length < (limD most l).2.1 then (3, [], [])
    else (0, (limD most l).2.2.take (limD most l).2.1, (limD most l).2.2.drop (limD most l).2.1)
  else ((limD most l).1, [], [])

theorem limD_le {most : Int} {l : List UInt8} (h : most ≤ 9223372036854775807) : ((limD most l).2.1 : Int) ≤ 9223372036854775807 := by
  unfold limD
  split
  · simp
  · split
    · simp
    · show (_ : Int) ≤ _
      simp only
      omega

theorem limD_drop {most : Int} {l : List UInt8} (h : (limD most l).1 = 0) : ∃ o, (limD most l).2.2 = l.drop o ∧ o ≤ l.length := by
  unfold limD at h ⊢
  cases hd : dec l with
  | none => rw [hd] at h; simp at h
  | some p =>
    obtain ⟨n, r⟩ := p
    rw [hd] at h
    simp only at h ⊢
    have := (dec_iff.1 hd).1
    split
    · rename_i hh; rw [if_pos hh] at h; simp at h
    · refine ⟨usize n, ?_, ?_⟩
      · simp only
        rw [this, ← length_num, List.drop_left]
      · have := dec_len hd; omega

theorem block_ok (R : Rd) (g : Nat) (data : List UInt8) (off last : Nat) (e : Int) (h : Hp) (most : Int) (hm1 : most ≤ 9223372036854775807) (ho : off ≤ data.length) (hd : data.length ≤ 9000000000000000000) (hr : IsR g data off last e h) :
    Fn Try.prog 36 [.pointer (some ⟨g, 0, .none⟩), .int .i64 most] h R (fun v h' => ∃ A k cap xs off' s, h' = rdH g A k cap xs off' last e ∧ k = data.length ∧ xs = BV data ∧ grow k A ∧ off' ≤ data.length ∧
      v = .tuple ⟨[s, .int .i64 (blkD most (data.drop off)).1]⟩ ∧ (((blkD most (data.drop off)).1 ≠ 0 ∧ s = .slice .none 0 0) ∨ ((blkD most (data.drop off)).1 = 0 ∧ off' + (blkD most (data.drop off)).2.2.length = data.length ∧
        ∃ o n, s = .slice (sliceBase A cap o 1) n (cap - o) ∧ o + n ≤ k ∧ k ≤ cap ∧ (blkD most (data.drop off)).2.1 = (data.drop o).take n))) := by
  obtain ⟨A, k, cap, xs, rfl, hk, hx, hg⟩ := hr
  refine fn_of_vc mixed tabOk Try.func36 rfl (by kernel_rfl) (Nat.le_of_ble_eq_true rfl) ?_
  refine ⟨[0, 0], _, limited_ok _ g data off last e _ most hm1 ho hd ⟨A, k, cap, xs, rfl, hk, hx, hg⟩, ?_⟩
  rintro v h' ⟨off', hle, ⟨A', k', cap', xs', rfl, hk', hx', hg'⟩, rfl, hoff⟩
  refine ⟨fun hb => ?_, fun hb => ?_⟩
  · have hb : ¬ (limD most (data.drop off)).1 = 0 := by simpa using hb
    refine ⟨_, Ent.refl _, A', k', cap', xs', off', _, rfl, hk', hx', hg', hle, ?_, .inl ⟨?_, rfl⟩⟩
    · rw [blkD, if_neg hb]; rfl
    · rw [blkD, if_neg hb]; exact hb
  · have hb : (limD most (data.drop off)).1 = 0 := by simpa using hb
    have hlim := limD_le (most := most) (l := data.drop off) hm1
    have hoff := hoff hb
    obtain ⟨q, hq, hql⟩ := limD_drop hb
    refine ⟨[0, 0], _, take_ok _ g data A' k' cap' xs' off' last e hk' (limD most (data.drop off)).2.1 (by omega) hle hd, ?_⟩
    have hrl : (limD most (data.drop off)).2.2.length = data.length - off' := by omega
    have hre : (limD most (data.drop off)).2.2 = data.drop off' := by
      rw [hq, List.drop_drop]
      rw [hq, List.drop_drop, List.length_drop] at hrl
      rw [List.length_drop] at hql
      congr 1; omega
    rintro v h' (⟨hlt, rfl, rfl⟩ | ⟨hge, hcap, rfl, rfl⟩)
    · refine ⟨_, Ent.refl _, A', k', cap', xs', off', _, rfl, hk', hx', hg', hle, ?_, .inl ⟨?_, rfl⟩⟩
      · rw [blkD, if_pos hb, if_pos (by omega)]; rfl
      · rw [blkD, if_pos hb, if_pos (by omega)]; simp
    · refine ⟨_, Ent.refl _, A', k', cap', xs', off' + (limD most (data.drop off)).2.1, _, rfl, hk', hx', hg', by omega, ?_, .inr ⟨?_, ?_, off', (limD most (data.drop off)).2.1, rfl, by omega, hcap, ?_⟩⟩
      · rw [blkD, if_pos hb, if_neg (by omega)]; rfl
      · rw [blkD, if_pos hb, if_neg (by omega)]
      · rw [blkD, if_pos hb, if_neg (by omega)]
        simp only [List.length_drop]
        omega
      · rw [blkD, if_pos hb, if_neg (by omega)]
        simp only
        rw [hre]

end Go.Proofs.Ytoddabjacjkjbaa

namespace Go.Proofs.Ytoddabjacjkjbaa
open Go Go.RowKit

/-! What each kind of read gives: the error, the value, what is left. -/
def uintD (l : List UInt8) : Int × Nat × List UInt8 := match dec l with | .none => (3, 0, []) | some (n, r) => (0, n, r)
def boolD : List UInt8 → Int × Bool × List UInt8
  | [] => (3, false, [])
  | b :: r => if 1 < b.toNat then (3, false, []) else (0, decide (b.toNat = 1), r)
def sumD (l : List UInt8) : Int × List UInt8 × List UInt8 := if l.length < 32 then (3, [], []) else (0, l.take 32, l.drop 32)

/-- The state of a reader after a read. -/
def nxt (data : List UInt8) (off last : Nat) (e : Int) (err : Int) (rest : List UInt8) : Nat × Nat × Int :=
  if e = 0 then (if err = 0 then (data.length - rest.length, off, 0) else (off, off, err)) else (off, last, e)

def IsRn (g : Nat) (data : List UInt8) (s : Nat × Nat × Int) (h : Hp) : Prop := IsR g data s.1 s.2.1 s.2.2 h

theorem NewReader_ok (R : Rd) (v : Value) (data : List UInt8) (hd : data.length ≤ 140737488355328) (hr : BsR R v data) : Fn Try.prog 5 [v] [] R (fun v h => ∃ g, v = .pointer (some ⟨g, 0, .none⟩) ∧ IsR g data 0 0 0 h) := by
  obtain ⟨A, cap, rfl⟩ := hr.form
  have hML := maxLen_eq
  refine fn_of_vc mixed tabOk Try.func5 rfl (by kernel_rfl) (Nat.le_of_ble_eq_true rfl) ?_
  refine ⟨rfl, fun g1 => ?_⟩
  refine ⟨BV data, by rw [BV_length]; exact (Nat.mul_one _).symm, (hr.rh _).src, BV_one _, by show (_ + _) * 1 ≤ _; omega, by omega, .inr ⟨0, rfl, rfl, rfl, rfl, rfl, rfl, fun A' cap' hg' => ?_⟩⟩
  intro g
  refine ⟨_, Ent.perm (List.Perm.swap _ _ _), g, rfl, A', _, cap', _, rfl, ?_, rfl, hg'⟩
  omega

theorem nxt_yes {g : Nat} {data : List UInt8} {off last off' : Nat} {err : Int} {rest : List UInt8} {h : Hp} (h1 : err = 0) (h2 : IsR g data off' off 0 h) (h3 : off' + rest.length = data.length) : IsRn g data (nxt data off last 0 err rest) h := by
  unfold IsRn nxt
  rw [if_pos rfl, if_pos h1]
  have : off' = data.length - rest.length := by omega
  rw [← this]; exact h2
theorem nxt_no {g : Nat} {data : List UInt8} {off last : Nat} {err : Int} {rest : List UInt8} {h : Hp} (h1 : err ≠ 0) (h2 : IsR g data off off err h) : IsRn g data (nxt data off last 0 err rest) h := by
  unfold IsRn nxt
  rw [if_pos rfl, if_neg h1]; exact h2
theorem nxt_same {g : Nat} {data : List UInt8} {off last : Nat} {e err : Int} {rest : List UInt8} {h : Hp} (h1 : e ≠ 0) (h2 : IsR g data off last e h) : IsRn g data (nxt data off last e err rest) h := by
  unfold IsRn nxt
  rw [if_neg h1]; exact h2

theorem RUint_ok (R : Rd) (g : Nat) (data : List UInt8) (off last : Nat) (e : Int) (h : Hp) (ho : off ≤ data.length) (hd : data.length ≤ 9000000000000000000) (hr : IsR g data off last e h) :
    Fn Try.prog 17 [.pointer (some ⟨g, 0, .none⟩)] h R (fun v h' => v = .int .u64 (if e = 0 then (uintD (data.drop off)).2.1 else 0 : Nat) ∧
      IsRn g data (nxt data off last e (uintD (data.drop off)).1 (uintD (data.drop off)).2.2) h') := by
  obtain ⟨A, k, cap, xs, rfl, hk, hx, hg⟩ := hr
  refine fn_of_vc mixed tabOk Try.func17 rfl (by kernel_rfl) (Nat.le_of_ble_eq_true rfl) ?_
  refine ⟨[0, 0], _, rvU_ok _ g data off last e _ ⟨A, k, cap, xs, rfl, hk, hx, hg⟩ _ (fun x err off' hx => hx = [] ∧ x = (uintD (data.drop off)).2.1 ∧ err = (uintD (data.drop off)).1 ∧ (err = 0 → off' + (uintD (data.drop off)).2.2.length = data.length)) (fun he R' h1 hRR hr1 => ?_), ?_⟩
  · refine (number_ok R' g data off last 0 h1 ho hd hr1).mono (fun _ _ h => h) ?_
    rintro v h' ⟨off', hle, hr', ⟨n, r, hdec, rfl, hoff⟩ | ⟨hdec, rfl⟩⟩
    · have := dec_len hdec
      rw [List.length_drop] at this
      refine ⟨n, 0, off', h', [], rfl, hr', by simp, rfl, ?_, ?_, ?_⟩
      · rw [uintD, hdec]
      · rw [uintD, hdec]
      · rw [uintD, hdec]; intro _; simp only; omega
    · refine ⟨0, 3, off', h', [], rfl, hr', by simp, rfl, ?_, ?_, ?_⟩
      · rw [uintD, hdec]; rfl
      · rw [uintD, hdec]
      · intro h; simp at h
  · rintro v h' (⟨he, rfl, hr'⟩ | ⟨rfl, x, err, off', h2, hx, ⟨rfl, rfl, rfl, hoff⟩, hc⟩)
    · refine ⟨_, Ent.refl _, ?_, nxt_same he hr'⟩
      rw [if_neg he]; rfl
    · rcases hc with ⟨herr, rfl, hr', rfl⟩ | ⟨herr, rfl, hr'⟩
      · rw [List.append_nil]
        exact ⟨_, Ent.refl _, rfl, nxt_yes herr hr' (hoff herr)⟩
      · refine ⟨_, Ent.refl _, ?_, nxt_no herr hr'⟩
        rw [if_pos rfl]
        unfold uintD at herr ⊢
        cases hdec : dec (data.drop off) with
        | none => rfl
        | some p => rw [hdec] at herr; simp at herr

set_option maxRecDepth 100000 in
set_option maxHeartbeats 4000000 in
theorem bool1_ok (R : Rd) (g b1 : Nat) (data : List UInt8) (off last : Nat) (h : Hp) (ho : off ≤ data.length) (hd : data.length ≤ 9000000000000000000) (hr : IsR g data off last 0 h) (hbox : R ⟨b1, 0, .none⟩ (.pointer (some ⟨g, 0, .none⟩))) :
    Fn Try.prog 32 [.pointer (some ⟨b1, 0, .none⟩)] h R (fun v h' => ∃ off', IsR g data off' last 0 h' ∧ v = .tuple ⟨[.bool (boolD (data.drop off)).2.1, .int .i64 (boolD (data.drop off)).1]⟩ ∧ ((boolD (data.drop off)).1 = 0 → off' + (boolD (data.drop off)).2.2.length = data.length)) := by
  obtain ⟨A, k, cap, xs, rfl, hk, hx, hg⟩ := hr
  refine fn_of_vc mixed tabOk Try.func32 rfl (by kernel_rfl) (Nat.le_of_ble_eq_true rfl) ?_
  refine ⟨[0, 0], lexT 0 23, by kernel_rfl, ?_⟩
  by_cases hend : off = data.length
  · have hnil : data.drop off = [] := List.drop_eq_nil_of_le (by omega)
    repeat (first | (focus (refine ⟨fun h => ?_, fun h => ?_⟩; first | (focus (exfalso; first | (simp at h; done) | exact absurd (of_decide_eq_true h) (by assumption) | exact absurd (by assumption) (of_decide_eq_false h))) | (rotate_left; focus (exfalso; first | (simp at h; done) | exact absurd (of_decide_eq_true h) (by assumption) | exact absurd (by assumption) (of_decide_eq_false h))) | (focus (exfalso; simp at h; omega)) | (rotate_left; focus (exfalso; simp at h; omega)); clear h)) | refine ⟨_, .inl hbox, ?_⟩ | refine ⟨_, ld 0 rfl rfl, ?_⟩)
    refine ⟨_, Ent.refl _, off, ⟨A, k, cap, xs, rfl, hk, hx, hg⟩, ?_, ?_⟩
    · rw [hnil]; rfl
    · rw [hnil]; intro h; simp [boolD] at h
  · have hlt : off < data.length := by omega
    have hxb : xs[off]? = some (.int .u8 (data[off].toNat : Int)) := by rw [hx]; exact BV_get (List.getElem?_eq_getElem hlt)
    have hcons := List.drop_eq_getElem_cons hlt
    generalize data[off] = b at hcons hxb
    have hb256 := UInt8.toNat_lt b
    obtain ⟨g2, rfl⟩ := growA hg (by omega)
    by_cases hb1 : 1 < b.toNat
    · repeat (first | (focus (refine ⟨fun h => ?_, fun h => ?_⟩; first | (focus (exfalso; first | (simp at h; done) | exact absurd (of_decide_eq_true h) (by assumption) | exact absurd (by assumption) (of_decide_eq_false h))) | (rotate_left; focus (exfalso; first | (simp at h; done) | exact absurd (of_decide_eq_true h) (by assumption) | exact absurd (by assumption) (of_decide_eq_false h))) | (focus (exfalso; simp at h; omega)) | (rotate_left; focus (exfalso; simp at h; omega)); clear h)) | refine ⟨_, .inl hbox, ?_⟩ | refine ⟨_, ld 0 rfl rfl, ?_⟩ | refine ⟨by omega, by omega, _, rfl, ?_⟩ | refine ⟨_, ldr1 1 rfl hxb, ?_⟩)
      refine ⟨_, Ent.refl _, off, ⟨_, k, cap, xs, rfl, hk, hx, hg⟩, ?_, ?_⟩
      · rw [hcons, boolD, if_pos hb1]; rfl
      · rw [hcons, boolD, if_pos hb1]; intro h; simp at h
    · repeat (first | (focus (refine ⟨fun h => ?_, fun h => ?_⟩; first | (focus (exfalso; first | (simp at h; done) | exact absurd (of_decide_eq_true h) (by assumption) | exact absurd (by assumption) (of_decide_eq_false h))) | (rotate_left; focus (exfalso; first | (simp at h; done) | exact absurd (of_decide_eq_true h) (by assumption) | exact absurd (by assumption) (of_decide_eq_false h))) | (focus (exfalso; simp at h; omega)) | (rotate_left; focus (exfalso; simp at h; omega)); clear h)) | refine ⟨_, .inl hbox, ?_⟩ | refine ⟨_, ld 0 rfl rfl, ?_⟩ | refine ⟨by omega, by omega, _, rfl, ?_⟩ | refine ⟨_, ldr1 1 rfl hxb, ?_⟩)
      refine ⟨[0, 0], lexT 0 11, by kernel_rfl, ?_⟩
      repeat (first | refine ⟨_, .inl hbox, ?_⟩ | refine ⟨_, ld 0 rfl rfl, ?_⟩ | refine ⟨by omega, by omega, _, rfl, ?_⟩ | refine ⟨_, ldr1 1 rfl hxb, ?_⟩)
      (intro z hz; obtain rfl := wr_i64 hz (by omega) (by omega); clear hz)
      refine ⟨rfl, rfl, 0, rfl, rfl, Nat.le_of_ble_eq_true rfl, ?_⟩
      refine ⟨_, Ent.refl _, off + 1, ⟨_, k, cap, xs, rfl, hk, hx, hg⟩, ?_, ?_⟩
      · rw [hcons, boolD, if_neg hb1]
        show Value.tuple ⟨[.bool (decide ((b.toNat : Int) = 1)), _]⟩ = _
        congr 4
        simp only [decide_eq_decide]
        omega
      · rw [hcons, boolD, if_neg hb1]; intro _; simp only [List.length_drop]; omega

theorem RBool_ok (R : Rd) (g : Nat) (data : List UInt8) (off last : Nat) (e : Int) (h : Hp) (ho : off ≤ data.length) (hd : data.length ≤ 9000000000000000000) (hr : IsR g data off last e h) :
    Fn Try.prog 18 [.pointer (some ⟨g, 0, .none⟩)] h R (fun v h' => v = .bool (if e = 0 then (boolD (data.drop off)).2.1 else false) ∧
      IsRn g data (nxt data off last e (boolD (data.drop off)).1 (boolD (data.drop off)).2.2) h') := by
  obtain ⟨A, k, cap, xs, rfl, hk, hx, hg⟩ := hr
  refine fn_of_vc mixed tabOk Try.func18 rfl (by kernel_rfl) (Nat.le_of_ble_eq_true rfl) ?_
  intro b1
  refine ⟨_, ld 2 rfl rfl, ?_⟩
  refine ⟨[0, 0], _, rvB_ok _ g data off last e _ ⟨A, k, cap, xs, rfl, hk, hx, hg⟩ _ _ (fun x err off' hx => hx = [] ∧ x = (boolD (data.drop off)).2.1 ∧ err = (boolD (data.drop off)).1 ∧ (err = 0 → off' + (boolD (data.drop off)).2.2.length = data.length)) (fun he R' h1 hRR hr1 => ?_), ?_⟩
  · refine (bool1_ok R' g b1 data off last h1 ho hd hr1 (hRR _ _ (ld 0 rfl rfl))).mono (fun _ _ h => h) ?_
    rintro v h' ⟨off', hr', rfl, hoff⟩
    exact ⟨_, _, off', h', [], rfl, hr', by simp, rfl, rfl, rfl, hoff⟩
  · rintro v h' (⟨he, rfl, hr'⟩ | ⟨rfl, x, err, off', h2, hx, ⟨rfl, rfl, rfl, hoff⟩, hc⟩)
    · refine ⟨_, Ent.dropr [_] _, ?_, nxt_same he hr'⟩
      rw [if_neg he]; rfl
    · rcases hc with ⟨herr, rfl, hr', rfl⟩ | ⟨herr, rfl, hr'⟩
      · rw [List.append_nil]
        exact ⟨_, Ent.dropr [_] _, rfl, nxt_yes herr hr' (hoff herr)⟩
      · refine ⟨_, Ent.dropr [_] _, ?_, nxt_no herr hr'⟩
        rw [if_pos rfl]
        cases hl : data.drop off with
        | nil => rfl
        | cons b r =>
          rw [hl] at herr
          by_cases hb : 1 < b.toNat
          · rw [boolD, if_pos hb]; rfl
          · rw [boolD, if_neg hb] at herr; simp at herr

/-- The error that End returns. -/
def endE (data : List UInt8) (off : Nat) (e : Int) : Int := if e = 0 then (if off < data.length then 3 else 0) else e

theorem REnd_ok (R : Rd) (g : Nat) (data : List UInt8) (off last : Nat) (e : Int) (h : Hp) (hr : IsR g data off last e h) :
    Fn Try.prog 10 [.pointer (some ⟨g, 0, .none⟩)] h R (fun v h' => v = .tuple ⟨[.int .i64 off, .int .i64 (endE data off e)]⟩ ∧ IsR g data off last e h') := by
  obtain ⟨A, k, cap, xs, rfl, hk, hx, hg⟩ := hr
  refine fn_of_vc mixed tabOk Try.func10 rfl (by kernel_rfl) (Nat.le_of_ble_eq_true rfl) ?_
  refine ⟨_, ld 0 rfl rfl, ?_⟩
  refine ⟨fun he => ?_, fun he => ?_⟩
  · have he : ¬ e = 0 := by simpa using he
    refine ⟨[0], lexT 0 10, by kernel_rfl, ?_⟩
    refine ⟨_, ld 0 rfl rfl, ?_⟩
    refine ⟨_, ld 0 rfl rfl, ?_⟩
    refine ⟨_, Ent.refl _, ?_, A, k, cap, xs, rfl, hk, hx, hg⟩
    rw [endE, if_neg he]; rfl
  · have he : e = 0 := by simpa using he
    subst he
    refine ⟨[0], lexT 0 10, by kernel_rfl, ?_⟩
    refine ⟨_, ld 0 rfl rfl, ?_⟩
    refine ⟨_, ld 0 rfl rfl, ?_⟩
    refine ⟨fun hb => ?_, fun hb => ?_⟩
    · replace hb := of_decide_eq_true hb
      refine ⟨_, ld 0 rfl rfl, ?_⟩
      refine ⟨_, Ent.refl _, ?_, A, k, cap, xs, rfl, hk, hx, hg⟩
      rw [endE, if_pos rfl, if_pos (by omega)]; rfl
    · replace hb := of_decide_eq_false hb
      refine ⟨_, ld 0 rfl rfl, ?_⟩
      refine ⟨_, Ent.refl _, ?_, A, k, cap, xs, rfl, hk, hx, hg⟩
      rw [endE, if_pos rfl, if_neg (by omega)]; rfl

end Go.Proofs.Ytoddabjacjkjbaa

namespace Go.Proofs.Ytoddabjacjkjbaa
open Go Go.RowKit

theorem num300 : num 300 = [172, 2] := by rw [num_big (by omega), num_small (by omega)]; rfl

set_option maxRecDepth 100000 in
set_option maxHeartbeats 4000000 in
theorem awake_ok (R : Rd) : Fn Try.prog 4 [] [] R (fun v h => v = .bool true ∧ h = []) := by
  refine fn_of_vc mixed tabOk Try.func4 rfl (by kernel_rfl) (Nat.le_of_ble_eq_true rfl) ?_
  refine ⟨[], _, NewWriter_ok _, ?_⟩
  rintro v h' ⟨g, rfl, A, k, cap, xs, rfl, hk, hx, hg⟩
  refine ⟨[0, 0], _, WUint_ok _ g [] 0 _ 300 (by omega) (by simp) ⟨A, k, cap, xs, rfl, hk, hx, hg⟩, ?_⟩
  clear hk hx hg
  rintro v h' hw
  rw [if_pos rfl, num300] at hw
  obtain ⟨A, k, cap, xs, rfl, hk, hx, hg⟩ := hw
  refine ⟨[0, 0], _, WBool_ok _ g _ 0 _ true (by simp) ⟨A, k, cap, xs, rfl, hk, hx, hg⟩, ?_⟩
  clear hk hx hg
  rintro v h' hw
  rw [if_pos rfl] at hw
  obtain ⟨A, k, cap, xs, rfl, hk, hx, hg⟩ := hw
  refine ⟨[0, 0], _, WDone_ok _ g [172, 2, 1] 0 _ ⟨A, k, cap, xs, rfl, hk, hx, hg⟩, ?_⟩
  clear hk hx hg
  rintro v h' ⟨s, hw, hs, hv, rfl, ⟨A, k, cap, xs, rfl, hk, hx, hg⟩, ⟨A2, k2, cap2, xs2, rfl, rfl, hk2, hx2, hg2⟩⟩
  have e1 : doneE [172, 2, 1] 0 = 0 := by decide
  have e2 : doneB [172, 2, 1] 0 = [172, 2, 1] := by decide
  rw [e1] at hv
  rw [e2] at hk2 hx2
  subst hv
  repeat (focus (refine ⟨fun h => ?_, fun h => ?_⟩; first | (focus (exfalso; first | (simp at h; done) | exact absurd (of_decide_eq_true h) (by assumption) | exact absurd (by assumption) (of_decide_eq_false h))) | (rotate_left; focus (exfalso; first | (simp at h; done) | exact absurd (of_decide_eq_true h) (by assumption) | exact absurd (by assumption) (of_decide_eq_false h))) | (focus (exfalso; simp at h; omega)) | (rotate_left; focus (exfalso; simp at h; omega)); clear h))
  refine ⟨rfl, fun g5 => ?_⟩
  repeat (focus (refine ⟨fun h => ?_, fun h => ?_⟩; first | (focus (exfalso; first | (simp at h; done) | exact absurd (of_decide_eq_true h) (by assumption) | exact absurd (by assumption) (of_decide_eq_false h))) | (rotate_left; focus (exfalso; first | (simp at h; done) | exact absurd (of_decide_eq_true h) (by assumption) | exact absurd (by assumption) (of_decide_eq_false h))) | (focus (exfalso; simp at h; omega)) | (rotate_left; focus (exfalso; simp at h; omega)); clear h))
  refine ⟨[], _, same_ok _ _ _ [172, 2, 1] [172, 2, 1] (BsR.own 2 rfl hk2 hx2 hg2) (BsR.own 3 rfl rfl rfl (.inr ⟨_, rfl⟩)) (by simp), ?_⟩
  rintro v h' ⟨rfl, rfl⟩
  repeat (focus (refine ⟨fun h => ?_, fun h => ?_⟩; first | (focus (exfalso; first | (simp at h; done) | exact absurd (of_decide_eq_true h) (by assumption) | exact absurd (by assumption) (of_decide_eq_false h))) | (rotate_left; focus (exfalso; first | (simp at h; done) | exact absurd (of_decide_eq_true h) (by assumption) | exact absurd (by assumption) (of_decide_eq_false h))) | (focus (exfalso; simp at h; omega)) | (rotate_left; focus (exfalso; simp at h; omega)); clear h))
  refine ⟨[], _, NewReader_ok _ _ [172, 2, 1] (by simp) (BsR.own 2 rfl hk2 hx2 hg2), ?_⟩
  rintro v h' ⟨g6, rfl, A6, k6, cap6, xs6, rfl, hk6, hx6, hg6⟩
  refine ⟨[4, 4], _, RUint_ok _ g6 [172, 2, 1] 0 0 0 _ (by simp) (by simp) ⟨A6, k6, cap6, xs6, rfl, hk6, hx6, hg6⟩, ?_⟩
  clear hk6 hx6 hg6
  rintro v h' ⟨hv, hr⟩
  have e3 : nxt [172, 2, 1] 0 0 0 (uintD (List.drop 0 [172, 2, 1])).1 (uintD (List.drop 0 [172, 2, 1])).2.2 = (2, 0, 0) := by decide
  have e4 : (if (0 : Int) = 0 then (uintD (List.drop 0 [172, 2, 1])).2.1 else 0) = 300 := by decide
  rw [e3] at hr
  rw [e4] at hv
  subst hv
  obtain ⟨A6, k6, cap6, xs6, rfl, hk6, hx6, hg6⟩ := hr
  refine ⟨[4, 4], _, RBool_ok _ g6 [172, 2, 1] 2 0 0 _ (by simp) (by simp) ⟨A6, k6, cap6, xs6, rfl, hk6, hx6, hg6⟩, ?_⟩
  clear hk6 hx6 hg6
  rintro v h' ⟨hv, hr⟩
  have e5 : nxt [172, 2, 1] 2 0 0 (boolD (List.drop 2 [172, 2, 1])).1 (boolD (List.drop 2 [172, 2, 1])).2.2 = (3, 2, 0) := by decide
  have e6 : (if (0 : Int) = 0 then (boolD (List.drop 2 [172, 2, 1])).2.1 else false) = true := by decide
  rw [e5] at hr
  rw [e6] at hv
  subst hv
  obtain ⟨A6, k6, cap6, xs6, rfl, hk6, hx6, hg6⟩ := hr
  refine ⟨[4, 4], _, REnd_ok _ g6 [172, 2, 1] 3 2 0 _ ⟨A6, k6, cap6, xs6, rfl, hk6, hx6, hg6⟩, ?_⟩
  clear hk6 hx6 hg6
  rintro v h' ⟨hv, A6, k6, cap6, xs6, rfl, hk6, hx6, hg6⟩
  have e7 : endE [172, 2, 1] 3 0 = 0 := by decide
  rw [e7] at hv
  subst hv
  refine ⟨rfl, fun g7 => ?_⟩
  refine ⟨[], _, NewReader_ok _ _ [128, 0] (by simp) (BsR.own 6 rfl rfl rfl (.inr ⟨_, rfl⟩)), ?_⟩
  rintro v h' ⟨g8, rfl, A8, k8, cap8, xs8, rfl, hk8, hx8, hg8⟩
  refine ⟨[7, 7], _, RUint_ok _ g8 [128, 0] 0 0 0 _ (by simp) (by simp) ⟨A8, k8, cap8, xs8, rfl, hk8, hx8, hg8⟩, ?_⟩
  clear hk8 hx8 hg8
  rintro v h' ⟨hv, hr⟩
  have e8 : nxt [128, 0] 0 0 0 (uintD (List.drop 0 [128, 0])).1 (uintD (List.drop 0 [128, 0])).2.2 = (0, 0, 3) := by decide
  have e9 : (if (0 : Int) = 0 then (uintD (List.drop 0 [128, 0])).2.1 else 0) = 0 := by decide
  rw [e8] at hr
  rw [e9] at hv
  subst hv
  obtain ⟨A8, k8, cap8, xs8, rfl, hk8, hx8, hg8⟩ := hr
  refine ⟨[7, 7], _, REnd_ok _ g8 [128, 0] 0 0 3 _ ⟨A8, k8, cap8, xs8, rfl, hk8, hx8, hg8⟩, ?_⟩
  clear hk8 hx8 hg8
  rintro v h' ⟨hv, A8, k8, cap8, xs8, rfl, hk8, hx8, hg8⟩
  have e10 : endE [128, 0] 0 3 = 3 := by decide
  rw [e10] at hv
  subst hv
  repeat (focus (refine ⟨fun h => ?_, fun h => ?_⟩; first | (focus (exfalso; first | (simp at h; done) | exact absurd (of_decide_eq_true h) (by assumption) | exact absurd (by assumption) (of_decide_eq_false h))) | (rotate_left; focus (exfalso; first | (simp at h; done) | exact absurd (of_decide_eq_true h) (by assumption) | exact absurd (by assumption) (of_decide_eq_false h))) | (focus (exfalso; simp at h; omega)) | (rotate_left; focus (exfalso; simp at h; omega)); clear h))
  refine ⟨[], _, Zigzag_ok _ (-3) (by omega) (by omega), ?_⟩
  rintro v h' ⟨rfl, rfl⟩
  have e11 : zig (-3) = 5 := by decide
  rw [e11]
  repeat (focus (refine ⟨fun h => ?_, fun h => ?_⟩; first | (focus (exfalso; first | (simp at h; done) | exact absurd (of_decide_eq_true h) (by assumption) | exact absurd (by assumption) (of_decide_eq_false h))) | (rotate_left; focus (exfalso; first | (simp at h; done) | exact absurd (of_decide_eq_true h) (by assumption) | exact absurd (by assumption) (of_decide_eq_false h))) | (focus (exfalso; simp at h; omega)) | (rotate_left; focus (exfalso; simp at h; omega)); clear h))
  refine ⟨[], _, UintSize_ok _ 300 (by omega), ?_⟩
  rintro v h' ⟨rfl, rfl⟩
  have e12 : usize 300 = 2 := by rw [usize_big (by omega), usize_small (by omega)]
  rw [e12]
  repeat (focus (refine ⟨fun h => ?_, fun h => ?_⟩; first | (focus (exfalso; first | (simp at h; done) | exact absurd (of_decide_eq_true h) (by assumption) | exact absurd (by assumption) (of_decide_eq_false h))) | (rotate_left; focus (exfalso; first | (simp at h; done) | exact absurd (of_decide_eq_true h) (by assumption) | exact absurd (by assumption) (of_decide_eq_false h))) | (focus (exfalso; simp at h; omega)) | (rotate_left; focus (exfalso; simp at h; omega)); clear h))
  exact ⟨_, Ent.nil _, rfl, rfl⟩

end Go.Proofs.Ytoddabjacjkjbaa

namespace Go.Proofs.Ytoddabjacjkjbaa
open Go Go.RowKit

theorem take_part {bs : List UInt8} {o n : Nat} : ((BV bs).drop o).take n = BV ((bs.drop o).take n) := by
  simp [BV, List.map_drop, List.map_take]

theorem blkD_err {most : Int} {l : List UInt8} (h : (blkD most l).1 ≠ 0) : (blkD most l).2.1 = [] := by
  unfold blkD at h ⊢
  split
  · split
    · rfl
    · rename_i h1 h2; rw [if_pos h1, if_neg h2] at h; simp at h
  · rfl

set_option maxHeartbeats 4000000 in
theorem bytes1_ok (R : Rd) (g b1 b2 : Nat) (data : List UInt8) (off last : Nat) (h : Hp) (most : Int) (hm1 : most ≤ 9223372036854775807) (ho : off ≤ data.length) (hd : data.length ≤ 1000000000) (hr : IsR g data off last 0 h)
    (hb1 : R ⟨b1, 0, .none⟩ (.pointer (some ⟨g, 0, .none⟩))) (hb2 : R ⟨b2, 0, .none⟩ (.int .i64 most)) :
    Fn Try.prog 35 [.pointer (some ⟨b1, 0, .none⟩), .pointer (some ⟨b2, 0, .none⟩)] h R (fun v h' => ∃ A k cap off' h2 hx, v = .tuple ⟨[.slice A k cap, .int .i64 (blkD most (data.drop off)).1]⟩ ∧ IsR g data off' last 0 h2 ∧ h' = h2 ++ hx ∧
      OwnB (.slice A k cap) (blkD most (data.drop off)).2.1 hx ∧ ((blkD most (data.drop off)).1 = 0 → off' + (blkD most (data.drop off)).2.2.length = data.length)) := by
  obtain ⟨A, k, cap, xs, rfl, hk, hx, hg⟩ := hr
  have hML := maxLen_eq
  refine fn_of_vc mixed tabOk Try.func35 rfl (by kernel_rfl) (Nat.le_of_ble_eq_true rfl) ?_
  refine ⟨_, ro hb1, ?_⟩
  refine ⟨_, ro hb2, ?_⟩
  refine ⟨[0, 0], _, block_ok _ g data off last 0 _ most hm1 ho (by omega) ⟨A, k, cap, xs, rfl, hk, hx, hg⟩, ?_⟩
  clear hk hx hg
  rintro v h' ⟨A, k, cap, xs, off', s, rfl, hk, hx, hg, ho', rfl, ⟨he, rfl⟩ | ⟨he, hoff, o, n, rfl, hon, hkc, hbs⟩⟩
  · refine ⟨[], rfl, (fun j u h => by simp at h), rfl, by show (0 + 0) * 1 ≤ _; omega, by omega, .inl ⟨rfl, rfl, rfl, fun A' cap' hg' => ?_⟩⟩
    refine ⟨_, Ent.refl _, A', _, cap', off', [_, _], [_], rfl, ⟨A, k, cap, xs, rfl, hk, hx, hg⟩, rfl, ⟨A', _, cap', _, rfl, rfl, ?_, ?_, hg'⟩, fun h => absurd h he⟩
    · rw [blkD_err he]; rfl
    · rw [blkD_err he]; rfl
  · refine ⟨BV ((data.drop o).take n), ?_, ?_, BV_one _, by show (0 + n) * 1 ≤ _; omega, by omega, .inl ⟨rfl, rfl, rfl, fun A' cap' hg' => ?_⟩⟩
    · show _ = n * 1
      rw [BV_length, List.length_take, List.length_drop]; omega
    · rw [← take_part, ← hx]
      exact sub_src 1 rfl (by rw [hx, BV_length, hk]) hon hkc hg
    · refine ⟨_, Ent.refl _, A', _, cap', off', [_, _], [_], rfl, ⟨A, k, cap, xs, rfl, hk, hx, hg⟩, rfl, ⟨A', _, cap', _, rfl, rfl, ?_, ?_, hg'⟩, fun _ => hoff⟩
      · rw [hbs, List.length_take, List.length_drop]; omega
      · rw [hbs]; rfl

set_option maxHeartbeats 4000000 in
theorem text1_ok (R : Rd) (g b1 b2 : Nat) (data : List UInt8) (off last : Nat) (h : Hp) (most : Int) (hm1 : most ≤ 9223372036854775807) (ho : off ≤ data.length) (hd : data.length ≤ 1000000000) (hr : IsR g data off last 0 h)
    (hb1 : R ⟨b1, 0, .none⟩ (.pointer (some ⟨g, 0, .none⟩))) (hb2 : R ⟨b2, 0, .none⟩ (.int .i64 most)) :
    Fn Try.prog 38 [.pointer (some ⟨b1, 0, .none⟩), .pointer (some ⟨b2, 0, .none⟩)] h R (fun v h' => ∃ off', v = .tuple ⟨[.string ⟨⟨(blkD most (data.drop off)).2.1⟩⟩, .int .i64 (blkD most (data.drop off)).1]⟩ ∧ IsR g data off' last 0 h' ∧
      ((blkD most (data.drop off)).1 = 0 → off' + (blkD most (data.drop off)).2.2.length = data.length)) := by
  obtain ⟨A, k, cap, xs, rfl, hk, hx, hg⟩ := hr
  have hML := maxLen_eq
  refine fn_of_vc mixed tabOk Try.func38 rfl (by kernel_rfl) (Nat.le_of_ble_eq_true rfl) ?_
  refine ⟨_, ro hb1, ?_⟩
  refine ⟨_, ro hb2, ?_⟩
  refine ⟨[0, 0], _, block_ok _ g data off last 0 _ most hm1 ho (by omega) ⟨A, k, cap, xs, rfl, hk, hx, hg⟩, ?_⟩
  clear hk hx hg
  rintro v h' ⟨A, k, cap, xs, off', s, rfl, hk, hx, hg, ho', rfl, ⟨he, rfl⟩ | ⟨he, hoff, o, n, rfl, hon, hkc, hbs⟩⟩
  · refine ⟨[], rfl, (fun j u h => by simp at h), ?_⟩
    refine ⟨_, Ent.refl _, off', ?_, ⟨A, k, cap, xs, rfl, hk, hx, hg⟩, fun h => absurd h he⟩
    rw [blkD_err he]; rfl
  · refine ⟨(data.drop o).take n, ?_, ?_, ?_⟩
    · rw [List.length_take, List.length_drop]; omega
    · intro j b hjb
      exact sub_src (R := R) (h := rdH g A k cap xs off' last 0) 1 rfl (by rw [hx, BV_length, hk]) hon hkc hg j _ (by rw [hx, take_part]; exact BV_get hjb)
    · refine ⟨_, Ent.refl _, off', ?_, ⟨A, k, cap, xs, rfl, hk, hx, hg⟩, fun _ => hoff⟩
      rw [hbs]; rfl

theorem sum1_ok (R : Rd) (g b1 : Nat) (data : List UInt8) (off last : Nat) (h : Hp) (ho : off ≤ data.length) (hd : data.length ≤ 1000000000) (hr : IsR g data off last 0 h)
    (hb1 : R ⟨b1, 0, .none⟩ (.pointer (some ⟨g, 0, .none⟩))) :
    Fn Try.prog 39 [.pointer (some ⟨b1, 0, .none⟩)] h R (fun v h' => ∃ off', v = .tuple ⟨[.string ⟨⟨(sumD (data.drop off)).2.1⟩⟩, .int .i64 (sumD (data.drop off)).1]⟩ ∧ IsR g data off' last 0 h' ∧
      ((sumD (data.drop off)).1 = 0 → off' + (sumD (data.drop off)).2.2.length = data.length)) := by
  obtain ⟨A, k, cap, xs, rfl, hk, hx, hg⟩ := hr
  refine fn_of_vc mixed tabOk Try.func39 rfl (by kernel_rfl) (Nat.le_of_ble_eq_true rfl) ?_
  refine ⟨_, ro hb1, ?_⟩
  refine ⟨[0, 0], _, take_ok _ g data A k cap xs off last 0 hk 32 (by omega) ho (by omega), ?_⟩
  rintro v h' (⟨hlt, rfl, rfl⟩ | ⟨hle, hkc, rfl, rfl⟩)
  · have hs : sumD (data.drop off) = (3, [], []) := by rw [sumD, if_pos (by rw [List.length_drop]; omega)]
    refine ⟨[], rfl, (fun j u h => by simp at h), ?_⟩
    refine ⟨_, Ent.refl _, off, ?_, ⟨A, k, cap, xs, rfl, hk, hx, hg⟩, ?_⟩
    · rw [hs]; rfl
    · rw [hs]; intro h; simp at h
  · have hs : sumD (data.drop off) = (0, (data.drop off).take 32, (data.drop off).drop 32) := by rw [sumD, if_neg (by rw [List.length_drop]; omega)]
    refine ⟨(data.drop off).take 32, ?_, ?_, ?_⟩
    · rw [List.length_take, List.length_drop]; omega
    · intro j b hjb
      exact sub_src (R := R) (h := rdH g A k cap xs (off + 32) last 0) 1 rfl (by rw [hx, BV_length, hk]) (o := off) (n := 32) (by omega) hkc hg j _ (by rw [hx, take_part]; exact BV_get hjb)
    · refine ⟨_, Ent.refl _, off + 32, ?_, ⟨A, k, cap, xs, rfl, hk, hx, hg⟩, ?_⟩
      · rw [hs]; rfl
      · rw [hs]; intro _; simp only [List.length_drop]; omega

theorem count1_ok (R : Rd) (g b1 b2 : Nat) (data : List UInt8) (off last : Nat) (h : Hp) (most : Int) (hm1 : most ≤ 9223372036854775807) (ho : off ≤ data.length) (hd : data.length ≤ 1000000000) (hr : IsR g data off last 0 h)
    (hb1 : R ⟨b1, 0, .none⟩ (.pointer (some ⟨g, 0, .none⟩))) (hb2 : R ⟨b2, 0, .none⟩ (.int .i64 most)) :
    Fn Try.prog 42 [.pointer (some ⟨b1, 0, .none⟩), .pointer (some ⟨b2, 0, .none⟩)] h R (fun v h' => ∃ off', v = .tuple ⟨[.int .i64 (limD most (data.drop off)).2.1, .int .i64 (limD most (data.drop off)).1]⟩ ∧ IsR g data off' last 0 h' ∧
      ((limD most (data.drop off)).1 = 0 → off' + (limD most (data.drop off)).2.2.length = data.length)) := by
  obtain ⟨A, k, cap, xs, rfl, hk, hx, hg⟩ := hr
  refine fn_of_vc mixed tabOk Try.func42 rfl (by kernel_rfl) (Nat.le_of_ble_eq_true rfl) ?_
  refine ⟨_, ro hb1, ?_⟩
  refine ⟨_, ro hb2, ?_⟩
  refine ⟨[0, 0], _, limited_ok _ g data off last 0 _ most hm1 ho (by omega) ⟨A, k, cap, xs, rfl, hk, hx, hg⟩, ?_⟩
  clear hk hx hg
  rintro v h' ⟨off', ho', ⟨A, k, cap, xs, rfl, hk, hx, hg⟩, rfl, hoff⟩
  exact ⟨_, Ent.refl _, off', rfl, ⟨A, k, cap, xs, rfl, hk, hx, hg⟩, hoff⟩

theorem RBytes_ok (R : Rd) (g : Nat) (data : List UInt8) (off last : Nat) (e : Int) (h : Hp) (most : Int) (hm1 : most ≤ 9223372036854775807) (ho : off ≤ data.length) (hd : data.length ≤ 1000000000) (hr : IsR g data off last e h) :
    Fn Try.prog 23 [.pointer (some ⟨g, 0, .none⟩), .int .i64 most] h R (fun v h' => ∃ h2 hx, h' = h2 ++ hx ∧ OwnB v (if e = 0 then (blkD most (data.drop off)).2.1 else []) hx ∧
      IsRn g data (nxt data off last e (blkD most (data.drop off)).1 (blkD most (data.drop off)).2.2) h2) := by
  obtain ⟨A, k, cap, xs, rfl, hk, hx, hg⟩ := hr
  refine fn_of_vc mixed tabOk Try.func23 rfl (by kernel_rfl) (Nat.le_of_ble_eq_true rfl) ?_
  intro b1
  intro b2
  refine ⟨_, ld 2 rfl rfl, ?_⟩
  refine ⟨[0, 0], _, rvY_ok _ g data off last e _ ⟨A, k, cap, xs, rfl, hk, hx, hg⟩ _ _ (fun x err off' hx => OwnB (.slice x.1 x.2.1 x.2.2) (blkD most (data.drop off)).2.1 hx ∧ err = (blkD most (data.drop off)).1 ∧ (err = 0 → off' + (blkD most (data.drop off)).2.2.length = data.length)) (fun he R' h1 hRR hr1 => ?_), ?_⟩
  · refine (bytes1_ok R' g b1 b2 data off last h1 most hm1 ho hd hr1 (hRR _ _ (ld 0 rfl rfl)) (hRR _ _ (ld 1 rfl rfl))).mono (fun _ _ h => h) ?_
    rintro v h' ⟨A, k, cap, off', h2, hx, rfl, hr', rfl, hown, hoff⟩
    exact ⟨(A, k, cap), _, off', h2, hx, rfl, hr', rfl, hown, rfl, hoff⟩
  · rintro v h' (⟨he, rfl, hr'⟩ | ⟨rfl, x, err, off', h2, hx, ⟨hown, rfl, hoff⟩, hc⟩)
    · refine ⟨_, (Ent.dropr [_, _] _).trans (Ent.nilrow _ 5 1), h', _, rfl, ?_, nxt_same he hr'⟩
      rw [if_neg he]
      exact ⟨_, _, _, _, rfl, rfl, rfl, rfl, .inl rfl⟩
    · rcases hc with ⟨herr, rfl, hr', rfl⟩ | ⟨herr, rfl, hr'⟩
      · exact ⟨_, Ent.dropr [_, _] _, h2, hx, rfl, hown, nxt_yes herr hr' (hoff herr)⟩
      · refine ⟨_, (Ent.dropr [_, _] _).trans (Ent.nilrow _ 5 1), h', _, rfl, ?_, nxt_no herr hr'⟩
        rw [if_pos rfl, blkD_err herr]
        exact ⟨_, _, _, _, rfl, rfl, rfl, rfl, .inl rfl⟩

theorem RText_ok (R : Rd) (g : Nat) (data : List UInt8) (off last : Nat) (e : Int) (h : Hp) (most : Int) (hm1 : most ≤ 9223372036854775807) (ho : off ≤ data.length) (hd : data.length ≤ 1000000000) (hr : IsR g data off last e h) :
    Fn Try.prog 24 [.pointer (some ⟨g, 0, .none⟩), .int .i64 most] h R (fun v h' => v = .string ⟨⟨if e = 0 then (blkD most (data.drop off)).2.1 else []⟩⟩ ∧
      IsRn g data (nxt data off last e (blkD most (data.drop off)).1 (blkD most (data.drop off)).2.2) h') := by
  obtain ⟨A, k, cap, xs, rfl, hk, hx, hg⟩ := hr
  refine fn_of_vc mixed tabOk Try.func24 rfl (by kernel_rfl) (Nat.le_of_ble_eq_true rfl) ?_
  intro b1
  intro b2
  refine ⟨_, ld 2 rfl rfl, ?_⟩
  refine ⟨[0, 0], _, rvS_ok _ g data off last e _ ⟨A, k, cap, xs, rfl, hk, hx, hg⟩ _ _ (fun x err off' hx => hx = [] ∧ x = ⟨⟨(blkD most (data.drop off)).2.1⟩⟩ ∧ err = (blkD most (data.drop off)).1 ∧ (err = 0 → off' + (blkD most (data.drop off)).2.2.length = data.length)) (fun he R' h1 hRR hr1 => ?_), ?_⟩
  · refine (text1_ok R' g b1 b2 data off last h1 most hm1 ho hd hr1 (hRR _ _ (ld 0 rfl rfl)) (hRR _ _ (ld 1 rfl rfl))).mono (fun _ _ h => h) ?_
    rintro v h' ⟨off', rfl, hr', hoff⟩
    exact ⟨_, _, off', h', [], rfl, hr', by simp, rfl, rfl, rfl, hoff⟩
  · rintro v h' (⟨he, rfl, hr'⟩ | ⟨rfl, x, err, off', h2, hx, ⟨rfl, rfl, rfl, hoff⟩, hc⟩)
    · refine ⟨_, Ent.dropr [_, _] _, ?_, nxt_same he hr'⟩
      rw [if_neg he]; rfl
    · rcases hc with ⟨herr, rfl, hr', rfl⟩ | ⟨herr, rfl, hr'⟩
      · rw [List.append_nil]
        exact ⟨_, Ent.dropr [_, _] _, rfl, nxt_yes herr hr' (hoff herr)⟩
      · refine ⟨_, Ent.dropr [_, _] _, ?_, nxt_no herr hr'⟩
        rw [if_pos rfl, blkD_err herr]; rfl

theorem RSum_ok (R : Rd) (g : Nat) (data : List UInt8) (off last : Nat) (e : Int) (h : Hp) (ho : off ≤ data.length) (hd : data.length ≤ 1000000000) (hr : IsR g data off last e h) :
    Fn Try.prog 25 [.pointer (some ⟨g, 0, .none⟩)] h R (fun v h' => v = .string ⟨⟨if e = 0 then (sumD (data.drop off)).2.1 else []⟩⟩ ∧
      IsRn g data (nxt data off last e (sumD (data.drop off)).1 (sumD (data.drop off)).2.2) h') := by
  obtain ⟨A, k, cap, xs, rfl, hk, hx, hg⟩ := hr
  refine fn_of_vc mixed tabOk Try.func25 rfl (by kernel_rfl) (Nat.le_of_ble_eq_true rfl) ?_
  intro b1
  refine ⟨_, ld 2 rfl rfl, ?_⟩
  refine ⟨[0, 0], _, rvS_ok _ g data off last e _ ⟨A, k, cap, xs, rfl, hk, hx, hg⟩ _ _ (fun x err off' hx => hx = [] ∧ x = ⟨⟨(sumD (data.drop off)).2.1⟩⟩ ∧ err = (sumD (data.drop off)).1 ∧ (err = 0 → off' + (sumD (data.drop off)).2.2.length = data.length)) (fun he R' h1 hRR hr1 => ?_), ?_⟩
  · refine (sum1_ok R' g b1 data off last h1 ho hd hr1 (hRR _ _ (ld 0 rfl rfl))).mono (fun _ _ h => h) ?_
    rintro v h' ⟨off', rfl, hr', hoff⟩
    exact ⟨_, _, off', h', [], rfl, hr', by simp, rfl, rfl, rfl, hoff⟩
  · rintro v h' (⟨he, rfl, hr'⟩ | ⟨rfl, x, err, off', h2, hx, ⟨rfl, rfl, rfl, hoff⟩, hc⟩)
    · refine ⟨_, Ent.dropr [_] _, ?_, nxt_same he hr'⟩
      rw [if_neg he]; rfl
    · rcases hc with ⟨herr, rfl, hr', rfl⟩ | ⟨herr, rfl, hr'⟩
      · rw [List.append_nil]
        exact ⟨_, Ent.dropr [_] _, rfl, nxt_yes herr hr' (hoff herr)⟩
      · refine ⟨_, Ent.dropr [_] _, ?_, nxt_no herr hr'⟩
        rw [if_pos rfl]
        unfold sumD at herr ⊢
        by_cases hb : (data.drop off).length < 32
        · rw [if_pos hb]; rfl
        · rw [if_neg hb] at herr; simp at herr

theorem limD_err {most : Int} {l : List UInt8} (h : (limD most l).1 ≠ 0) : (limD most l).2.1 = 0 := by
  unfold limD at h ⊢
  split
  · rfl
  · split
    · rfl
    · rename_i hd hm; rw [hd] at h; simp [hm] at h

theorem RCount_ok (R : Rd) (g : Nat) (data : List UInt8) (off last : Nat) (e : Int) (h : Hp) (most : Int) (hm1 : most ≤ 9223372036854775807) (ho : off ≤ data.length) (hd : data.length ≤ 1000000000) (hr : IsR g data off last e h) :
    Fn Try.prog 26 [.pointer (some ⟨g, 0, .none⟩), .int .i64 most] h R (fun v h' => v = .int .i64 (if e = 0 then (limD most (data.drop off)).2.1 else 0 : Nat) ∧
      IsRn g data (nxt data off last e (limD most (data.drop off)).1 (limD most (data.drop off)).2.2) h') := by
  obtain ⟨A, k, cap, xs, rfl, hk, hx, hg⟩ := hr
  refine fn_of_vc mixed tabOk Try.func26 rfl (by kernel_rfl) (Nat.le_of_ble_eq_true rfl) ?_
  intro b1
  intro b2
  refine ⟨_, ld 2 rfl rfl, ?_⟩
  refine ⟨[0, 0], _, rvI_ok _ g data off last e _ ⟨A, k, cap, xs, rfl, hk, hx, hg⟩ _ _ (fun x err off' hx => hx = [] ∧ x = (limD most (data.drop off)).2.1 ∧ err = (limD most (data.drop off)).1 ∧ (err = 0 → off' + (limD most (data.drop off)).2.2.length = data.length)) (fun he R' h1 hRR hr1 => ?_), ?_⟩
  · refine (count1_ok R' g b1 b2 data off last h1 most hm1 ho hd hr1 (hRR _ _ (ld 0 rfl rfl)) (hRR _ _ (ld 1 rfl rfl))).mono (fun _ _ h => h) ?_
    rintro v h' ⟨off', rfl, hr', hoff⟩
    exact ⟨_, _, off', h', [], rfl, hr', by simp, rfl, rfl, rfl, hoff⟩
  · rintro v h' (⟨he, rfl, hr'⟩ | ⟨rfl, x, err, off', h2, hx, ⟨rfl, rfl, rfl, hoff⟩, hc⟩)
    · refine ⟨_, Ent.dropr [_, _] _, ?_, nxt_same he hr'⟩
      rw [if_neg he]; rfl
    · rcases hc with ⟨herr, rfl, hr', rfl⟩ | ⟨herr, rfl, hr'⟩
      · rw [List.append_nil]
        exact ⟨_, Ent.dropr [_, _] _, rfl, nxt_yes herr hr' (hoff herr)⟩
      · refine ⟨_, Ent.dropr [_, _] _, ?_, nxt_no herr hr'⟩
        rw [if_pos rfl, limD_err herr]; rfl

theorem uintD_le (l : List UInt8) : (uintD l).2.1 ≤ 18446744073709551615 := by
  unfold uintD
  split
  · simp
  · rename_i h; exact (dec_iff.1 h).2

theorem RInt_ok (R : Rd) (g : Nat) (data : List UInt8) (off last : Nat) (e : Int) (h : Hp) (ho : off ≤ data.length) (hd : data.length ≤ 1000000000) (hr : IsR g data off last e h) :
    Fn Try.prog 22 [.pointer (some ⟨g, 0, .none⟩)] h R (fun v h' => v = .int .i64 (if e = 0 then zag (uintD (data.drop off)).2.1 else 0) ∧
      IsRn g data (nxt data off last e (uintD (data.drop off)).1 (uintD (data.drop off)).2.2) h') := by
  obtain ⟨A, k, cap, xs, rfl, hk, hx, hg⟩ := hr
  have hul := uintD_le (data.drop off)
  refine fn_of_vc mixed tabOk Try.func22 rfl (by kernel_rfl) (Nat.le_of_ble_eq_true rfl) ?_
  refine ⟨[0, 0], _, RUint_ok _ g data off last e _ ho (by omega) ⟨A, k, cap, xs, rfl, hk, hx, hg⟩, ?_⟩
  clear hk hx hg
  rintro v h' ⟨rfl, A, k, cap, xs, rfl, hk, hx, hg⟩
  refine ⟨[], _, Unzigzag_ok _ (if e = 0 then (uintD (data.drop off)).2.1 else 0) (by split <;> omega), ?_⟩
  rintro v h'' ⟨rfl, rfl⟩
  refine ⟨_, Ent.refl _, ?_, A, k, cap, xs, rfl, hk, hx, hg⟩
  show Value.int _ _ = _
  split <;> rfl

theorem RLeft_ok (R : Rd) (g : Nat) (data : List UInt8) (off last : Nat) (e : Int) (h : Hp) (ho : off ≤ data.length) (hd : data.length ≤ 1000000000) (hr : IsR g data off last e h) :
    Fn Try.prog 9 [.pointer (some ⟨g, 0, .none⟩)] h R (fun v h' => v = .int .i64 (data.length - off : Nat) ∧ IsR g data off last e h') := by
  obtain ⟨A, k, cap, xs, rfl, hk, hx, hg⟩ := hr
  refine fn_of_vc mixed tabOk Try.func9 rfl (by kernel_rfl) (Nat.le_of_ble_eq_true rfl) ?_
  refine ⟨[0], lexT 0 11, by kernel_rfl, ?_⟩
  refine ⟨_, ld 0 rfl rfl, ?_⟩
  refine ⟨_, ld 0 rfl rfl, ?_⟩
  (intro z hz; obtain rfl := wr_i64 hz (by omega) (by omega); clear hz)
  refine ⟨_, Ent.refl _, ?_, A, k, cap, xs, rfl, hk, hx, hg⟩
  show Value.int _ _ = _
  congr 1
  omega

theorem RFail_ok (R : Rd) (g : Nat) (data : List UInt8) (off last : Nat) (e : Int) (h : Hp) (hr : IsR g data off last e h) :
    Fn Try.prog 21 [.pointer (some ⟨g, 0, .none⟩)] h R (fun _ h' => IsRn g data (if e = 0 then (last, last, 3) else (off, last, e)) h') := by
  obtain ⟨A, k, cap, xs, rfl, hk, hx, hg⟩ := hr
  refine fn_of_vc mixed tabOk Try.func21 rfl (by kernel_rfl) (Nat.le_of_ble_eq_true rfl) ?_
  refine ⟨_, ld 0 rfl rfl, ?_⟩
  refine ⟨fun hb => ?_, fun hb => ?_⟩
  · replace hb := of_decide_eq_true hb
    subst hb
    refine ⟨rfl, rfl, 0, rfl, rfl, Nat.le_of_ble_eq_true rfl, ?_⟩
    refine ⟨_, ld 0 rfl rfl, ?_⟩
    refine ⟨rfl, rfl, 0, rfl, rfl, Nat.le_of_ble_eq_true rfl, ?_⟩
    exact ⟨_, Ent.refl _, A, k, cap, xs, rfl, hk, hx, hg⟩
  · replace hb := of_decide_eq_false hb
    rw [if_neg hb]
    exact ⟨_, Ent.refl _, A, k, cap, xs, rfl, hk, hx, hg⟩

end Go.Proofs.Ytoddabjacjkjbaa
