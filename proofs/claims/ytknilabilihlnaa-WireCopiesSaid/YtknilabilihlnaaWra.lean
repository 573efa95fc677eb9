/-
  Contracts of the functions of package wire (and of its reference) that compute with numbers.
-/
import Derived.Test.YtknilabilihlnaaWma
import Derived.Test.YtknilabilihlnaaTab
namespace Go.Proofs.Ytknilabilihlnaa
open Go Go.RowKit

theorem Zigzag_ok (R : Rd) (n : Int) (h1 : -9223372036854775808 ≤ n) (h2 : n ≤ 9223372036854775807) : Fn Try.prog 18 [.int .i64 n] [] R (fun v h => v = .int .u64 (zig n) ∧ h = []) := by
  refine fn_of_vc mixed tabOk Try.func18 rfl (by kernel_rfl) (Nat.le_of_ble_eq_true rfl) ?_
  refine ⟨fun hb => ?_, fun hb => ?_⟩
  · replace hb := of_decide_eq_true hb
    (intro z hz; obtain rfl := wr_i64 hz (by omega) (by omega); clear hz)
    (intro z hz; obtain rfl := wr_i64 hz (by omega) (by omega); clear hz)
    (intro z hz; obtain rfl := wr_u64 hz (by omega) (by omega); clear hz)
    (intro z hz; obtain rfl := wr_u64 hz (by omega) (by omega); clear hz)
    (intro z hz; obtain rfl := wr_u64 hz (by omega) (by omega); clear hz)
    refine ⟨_, Ent.refl _, ?_, rfl⟩
    show Value.int _ _ = _
    congr 1
    unfold zig; rw [if_pos hb]; omega
  · replace hb := of_decide_eq_false hb
    (intro z hz; obtain rfl := wr_u64 hz (by omega) (by omega); clear hz)
    (intro z hz; obtain rfl := wr_u64 hz (by omega) (by omega); clear hz)
    refine ⟨_, Ent.refl _, ?_, rfl⟩
    show Value.int _ _ = _
    congr 1
    unfold zig; rw [if_neg hb]; omega

theorem UintSize_ok (R : Rd) (n : Nat) (h2 : n ≤ 18446744073709551615) : Fn Try.prog 17 [.int .u64 n] [] R (fun v h => v = .int .i64 (usize n) ∧ h = []) := by
  have h10 := usize_le10 h2
  refine fn_of_vc mixed tabOk Try.func17 rfl (by kernel_rfl) (Nat.le_of_ble_eq_true rfl) ?_
  refine ⟨[0,3,4,5,6,7,8,9], [0,3], Nat × Nat, fun ⟨m, s⟩ => m ≤ n ∧ s + usize m = 1 + usize n, fun ⟨m, s⟩ => [.int .u64 m, .int .i64 s], fun _ => [], fun ⟨m, s⟩ => m, (n, 1), ⟨Nat.le_refl _, rfl⟩, ⟨rfl, rfl, trivial⟩, Ent.refl _, ?_⟩
  rintro ⟨m, s⟩ ⟨hm, hs⟩ js
  refine ⟨fun hb => ?_, fun hb => ?_⟩
  · replace hb := of_decide_eq_true hb
    refine ⟨by omega, ?_⟩
    intro z hz; obtain rfl := shr_7 hz; clear hz
    have hu := usize_big (n := m) (by omega)
    (intro z hz; obtain rfl := wr_i64 hz (by omega) (by omega); clear hz)
    exact ⟨rfl, (m / 128, s + 1), ⟨by omega, by omega⟩, by show m / 128 < m; omega, ⟨rfl, rfl, trivial⟩, Ent.refl _, rfl⟩
  · replace hb := of_decide_eq_false hb
    refine ⟨_, Ent.refl _, ?_, rfl⟩
    have hu := usize_small (n := m) (by omega)
    show Value.int _ _ = _
    congr 1
    omega

/-- Bytes of the call's own. -/
def OwnB (v : Value) (bs : List UInt8) (h : Hp) : Prop :=
  ∃ A k cap xs, v = .slice A k cap ∧ h = [.row A k cap 5 1 xs (0, 0)] ∧ k = bs.length ∧ xs = BV bs ∧ grow k A

theorem extend_ok (R : Rd) (v : Value) (bs : List UInt8) (h : Hp) (n : Nat) (h2 : n ≤ 18446744073709551615) (hb : bs.length ≤ 140737488000000) (ho : OwnB v bs h) :
    Fn Try.prog 43 [v, .int .u64 n] h R (fun v' h' => OwnB v' (bs ++ num n) h') := by
  obtain ⟨A, k, cap, xs, rfl, rfl, hk, hxs, hg⟩ := ho
  have h10 := usize_le10 h2
  have hML := maxLen_eq
  refine fn_of_vc mixed tabOk Try.func43 rfl (by kernel_rfl) (Nat.le_of_ble_eq_true rfl) ?_
  refine ⟨[0, 1, 5, 6, 7, 8, 9, 10, 11, 12, 13, 14], [0, 1], Option Addr × Nat × Nat × List Value × Nat × List UInt8, fun ⟨A, k, cap, xs, m, cs⟩ => xs = BV cs ∧ k = cs.length ∧ cs ++ num m = bs ++ num n ∧ m ≤ n ∧ k + usize m = bs.length + usize n ∧ grow k A,
    fun ⟨A, k, cap, xs, m, cs⟩ => [.slice A k cap, .int .u64 m], fun ⟨A, k, cap, xs, m, cs⟩ => [.row A k cap 5 1 xs (0, 0)], fun ⟨A, k, cap, xs, m, cs⟩ => m, (A, k, cap, xs, n, bs), ⟨hxs, hk, rfl, Nat.le_refl _, by omega, hg⟩, ⟨rfl, rfl, trivial⟩, Ent.refl _, ?_⟩
  rintro ⟨A, k, cap, xs, m, cs⟩ ⟨hxs, hk, hcs, hm, hu, hg⟩ js
  refine ⟨fun hb => ?_, fun hb => ?_⟩
  · replace hb := of_decide_eq_true hb
    have hu2 := usize_big (n := m) (by omega)
    intro z hz
    have hz2 : z = ((m % 256 : Nat) : Int) := by rw [hz, IntKind.wrap_u8]; omega
    subst hz2; clear hz
    intro z hz
    rw [bor128 _ (by omega)] at hz
    subst hz
    refine ⟨rfl, fun g => ?_⟩
    refine ⟨[Value.int .u8 ((m % 256 % 128 + 128 : Nat) : Int)], rfl, rdRow 1 rfl, rfl, by show (_ + _) * 1 ≤ _; omega, by omega, .inr ⟨0, rfl, rfl, rfl, rfl, rfl, rfl, fun A' cap' hg' => ?_⟩⟩
    refine ⟨by omega, ?_⟩
    intro z hz; obtain rfl := shr_7 hz; clear hz
    refine ⟨rfl, (A', k + 1, cap', xs ++ [Value.int .u8 ((m % 256 % 128 + 128 : Nat) : Int)], m / 128, cs ++ [UInt8.ofNat (m % 128 + 128)]), ⟨?_, ?_, ?_, by omega, by omega, hg'⟩, by show m / 128 < m; omega, ⟨rfl, rfl, trivial⟩, Ent.drop [_] [_], rfl⟩
    · have e : ((m % 256 % 128 + 128 : Nat) : Int).toNat = m % 128 + 128 := by omega
      rw [hxs, BV_append, BV_singleton (by omega) (by omega), e]
    · rw [hk]; simp
    · rw [← hcs, num_big (n := m) (by omega)]; simp
  · replace hb := of_decide_eq_false hb
    have hu2 := usize_small (n := m) (by omega)
    intro z hz
    have hz2 : z = (m : Int) := by rw [hz, IntKind.wrap_u8]; omega
    subst hz2; clear hz
    refine ⟨rfl, fun g => ?_⟩
    refine ⟨[Value.int .u8 (m : Int)], rfl, rdRow 1 rfl, rfl, by show (_ + _) * 1 ≤ _; omega, by omega, .inr ⟨0, rfl, rfl, rfl, rfl, rfl, rfl, fun A' cap' hg' => ?_⟩⟩
    refine ⟨_, Ent.drop [_] [_], A', k + 1, cap', _, rfl, rfl, ?_, ?_, hg'⟩
    · rw [← hcs, hk, num_small (n := m) (by omega)]; simp
    · rw [← hcs, hxs, BV_append, num_small (n := m) (by omega), BV_singleton (by omega) (by omega)]; simp

theorem refZigzag_ok (R : Rd) (n : Int) (h1 : -9223372036854775808 ≤ n) (h2 : n ≤ 9223372036854775807) : Fn Try.prog 19 [.int .i64 n] [] R (fun v h => v = .int .u64 (zig n) ∧ h = []) := by
  refine fn_of_vc mixed tabOk Try.func19 rfl (by kernel_rfl) (Nat.le_of_ble_eq_true rfl) ?_
  refine ⟨fun hb => ?_, fun hb => ?_⟩
  · replace hb := of_decide_eq_true hb
    (intro z hz; obtain rfl := wr_u64 hz (by omega) (by omega); clear hz)
    (intro z hz; obtain rfl := wr_u64 hz (by omega) (by omega); clear hz)
    refine ⟨_, Ent.refl _, ?_, rfl⟩
    show Value.int _ _ = _
    congr 1
    unfold zig; rw [if_neg (by omega)]
  · replace hb := of_decide_eq_false hb
    (intro z hz; obtain rfl := wr_i64 hz (by omega) (by omega); clear hz)
    (intro z hz; obtain rfl := wr_i64 hz (by omega) (by omega); clear hz)
    (intro z hz; obtain rfl := wr_u64 hz (by omega) (by omega); clear hz)
    (intro z hz; obtain rfl := wr_u64 hz (by omega) (by omega); clear hz)
    (intro z hz; obtain rfl := wr_u64 hz (by omega) (by omega); clear hz)
    refine ⟨_, Ent.refl _, ?_, rfl⟩
    show Value.int _ _ = _
    congr 1
    unfold zig; rw [if_pos (by omega)]; omega

theorem Unzigzag_ok (R : Rd) (n : Nat) (h2 : n ≤ 18446744073709551615) : Fn Try.prog 20 [.int .u64 n] [] R (fun v h => v = .int .i64 (zag n) ∧ h = []) := by
  refine fn_of_vc mixed tabOk Try.func20 rfl (by kernel_rfl) (Nat.le_of_ble_eq_true rfl) ?_
  refine ⟨by decide, ?_⟩
  intro z hz; obtain rfl : z = ((n % 2 : Nat) : Int) := hz
  refine ⟨fun hb => ?_, fun hb => ?_⟩
  · replace hb := of_decide_eq_true hb
    refine ⟨by decide, ?_⟩
    intro z hz; obtain rfl : z = ((n / 2 : Nat) : Int) := wr_u64 hz (show (0 : Int) ≤ ((n / 2 : Nat) : Int) by omega) (show ((n / 2 : Nat) : Int) ≤ _ by omega); clear hz
    (intro z hz; obtain rfl := wr_i64 hz (by omega) (by omega); clear hz)
    (intro z hz; obtain rfl := wr_i64 hz (by omega) (by omega); clear hz)
    (intro z hz; obtain rfl := wr_i64 hz (by omega) (by omega); clear hz)
    refine ⟨_, Ent.refl _, ?_, rfl⟩
    show Value.int _ _ = _
    congr 1
    unfold zag; rw [if_pos (by omega)]; omega
  · replace hb := of_decide_eq_false hb
    refine ⟨by decide, ?_⟩
    intro z hz; obtain rfl : z = ((n / 2 : Nat) : Int) := wr_u64 hz (show (0 : Int) ≤ ((n / 2 : Nat) : Int) by omega) (show ((n / 2 : Nat) : Int) ≤ _ by omega); clear hz
    (intro z hz; obtain rfl := wr_i64 hz (by omega) (by omega); clear hz)
    refine ⟨_, Ent.refl _, ?_, rfl⟩
    show Value.int _ _ = _
    congr 1
    unfold zag; rw [if_neg (by omega)]

theorem refUnzigzag_ok (R : Rd) (n : Nat) (h2 : n ≤ 18446744073709551615) : Fn Try.prog 21 [.int .u64 n] [] R (fun v h => v = .int .i64 (zag n) ∧ h = []) := by
  refine fn_of_vc mixed tabOk Try.func21 rfl (by kernel_rfl) (Nat.le_of_ble_eq_true rfl) ?_
  refine ⟨by decide, ?_⟩
  intro z hz; obtain rfl : z = ((n % 2 : Nat) : Int) := hz
  refine ⟨fun hb => ?_, fun hb => ?_⟩
  · replace hb := of_decide_eq_true hb
    refine ⟨by decide, ?_⟩
    intro z hz; obtain rfl : z = ((n / 2 : Nat) : Int) := wr_u64 hz (show (0 : Int) ≤ ((n / 2 : Nat) : Int) by omega) (show ((n / 2 : Nat) : Int) ≤ _ by omega); clear hz
    (intro z hz; obtain rfl := wr_i64 hz (by omega) (by omega); clear hz)
    refine ⟨_, Ent.refl _, ?_, rfl⟩
    show Value.int _ _ = _
    congr 1
    unfold zag; rw [if_neg (by omega)]
  · replace hb := of_decide_eq_false hb
    refine ⟨by decide, ?_⟩
    intro z hz; obtain rfl : z = ((n / 2 : Nat) : Int) := wr_u64 hz (show (0 : Int) ≤ ((n / 2 : Nat) : Int) by omega) (show ((n / 2 : Nat) : Int) ≤ _ by omega); clear hz
    (intro z hz; obtain rfl := wr_i64 hz (by omega) (by omega); clear hz)
    (intro z hz; obtain rfl := wr_i64 hz (by omega) (by omega); clear hz)
    (intro z hz; obtain rfl := wr_i64 hz (by omega) (by omega); clear hz)
    refine ⟨_, Ent.refl _, ?_, rfl⟩
    show Value.int _ _ = _
    congr 1
    unfold zag; rw [if_pos (by omega)]; omega

theorem Number_ok (R : Rd) (n : Nat) (h2 : n ≤ 18446744073709551615) : Fn Try.prog 14 [.int .u64 n] [] R (fun v h => OwnB v (num n) h) := by
  have h10 := usize_le10 h2
  have hML := maxLen_eq
  refine fn_of_vc mixed tabOk Try.func14 rfl (by kernel_rfl) (Nat.le_of_ble_eq_true rfl) ?_
  refine ⟨rfl, fun g => ?_⟩
  refine ⟨[0, 3, 5, 6, 7, 8, 9, 10, 11, 12, 13, 14, 15], [0, 3], Option Addr × Nat × Nat × List Value × Nat × List UInt8, fun ⟨A, k, cap, xs, m, cs⟩ => xs = BV cs ∧ k = cs.length ∧ cs ++ num m = num n ∧ m ≤ n ∧ k + usize m = usize n ∧ grow k A,
    fun ⟨A, k, cap, xs, m, cs⟩ => [.int .u64 m, .slice A k cap], fun ⟨A, k, cap, xs, m, cs⟩ => [.row A k cap 5 1 xs (0, 0)], fun ⟨A, k, cap, xs, m, cs⟩ => m, (some ⟨g, 0, .none⟩, 0, 0, [], n, []), ⟨rfl, rfl, rfl, Nat.le_refl _, by omega, .inl rfl⟩, ⟨rfl, rfl, trivial⟩, Ent.refl _, ?_⟩
  rintro ⟨A, k, cap, xs, m, cs⟩ ⟨hxs, hk, hcs, hm, hu, hg⟩ js
  refine ⟨fun hb => ?_, fun hb => ?_⟩
  · replace hb := of_decide_eq_true hb
    have hu2 := usize_big (n := m) (by omega)
    refine ⟨by decide, ?_⟩
    intro z hz; obtain rfl : z = ((m % 128 : Nat) : Int) := hz
    (intro z hz; obtain rfl := wr_u8 hz (by omega) (by omega); clear hz)
    (intro z hz; obtain rfl := wr_u8 hz (by omega) (by omega); clear hz)
    refine ⟨rfl, fun g => ?_⟩
    refine ⟨[Value.int .u8 ((m % 128 + 128 : Nat) : Int)], rfl, rdRow 1 rfl, rfl, by show (_ + _) * 1 ≤ _; omega, by omega, .inr ⟨0, rfl, rfl, rfl, rfl, rfl, rfl, fun A' cap' hg' => ?_⟩⟩
    refine ⟨by decide, ?_⟩
    intro z hz; obtain rfl : z = ((m / 128 : Nat) : Int) := wr_u64 hz (show (0 : Int) ≤ ((m / 128 : Nat) : Int) by omega) (show ((m / 128 : Nat) : Int) ≤ _ by omega); clear hz
    refine ⟨rfl, (A', k + 1, cap', xs ++ [Value.int .u8 ((m % 128 + 128 : Nat) : Int)], m / 128, cs ++ [UInt8.ofNat (m % 128 + 128)]), ⟨?_, ?_, ?_, by omega, by omega, hg'⟩, by show m / 128 < m; omega, ⟨rfl, rfl, trivial⟩, Ent.drop [_] [_], rfl⟩
    · have e : ((m % 128 + 128 : Nat) : Int).toNat = m % 128 + 128 := by omega
      rw [hxs, BV_append, BV_singleton (by omega) (by omega), e]
    · rw [hk]; simp
    · rw [← hcs, num_big (n := m) (by omega)]; simp
  · replace hb := of_decide_eq_false hb
    have hu2 := usize_small (n := m) (by omega)
    (intro z hz; obtain rfl := wr_u8 hz (by omega) (by omega); clear hz)
    refine ⟨rfl, fun g => ?_⟩
    refine ⟨[Value.int .u8 (m : Int)], rfl, rdRow 1 rfl, rfl, by show (_ + _) * 1 ≤ _; omega, by omega, .inr ⟨0, rfl, rfl, rfl, rfl, rfl, rfl, fun A' cap' hg' => ?_⟩⟩
    refine ⟨_, Ent.drop [_] [_], A', k + 1, cap', _, rfl, rfl, ?_, ?_, hg'⟩
    · rw [← hcs, hk, num_small (n := m) (by omega)]; simp
    · rw [← hcs, hxs, BV_append, num_small (n := m) (by omega), BV_singleton (by omega) (by omega)]; simp

theorem AppendUint_ok (R : Rd) (v : Value) (bs : List UInt8) (n : Nat) (h2 : n ≤ 18446744073709551615) (hb : bs.length ≤ 140737487900000) (hr : BsR R v bs) :
    Fn Try.prog 16 [v, .int .u64 n] [] R (fun v' h' => OwnB v' (bs ++ num n) h') := by
  obtain ⟨A, cap, rfl⟩ := hr.form
  have hML := maxLen_eq
  refine fn_of_vc mixed tabOk Try.func16 rfl (by kernel_rfl) (Nat.le_of_ble_eq_true rfl) ?_
  (intro z hz; obtain rfl := wr_i64 hz (by omega) (by omega); clear hz)
  refine ⟨by omega, by omega, by show (1 : Int) * _ ≤ _; omega, by omega, fun g => ?_⟩
  refine ⟨BV bs, ?_, (hr.rh _).src, BV_one _, by show (_ + _) * 1 ≤ _; omega, by omega, .inr ⟨0, rfl, rfl, rfl, rfl, rfl, rfl, fun A' cap' hg' => ?_⟩⟩
  · rw [BV_length]; exact (Nat.mul_one _).symm
  · refine ⟨[0], _, extend_ok _ _ bs _ n h2 (by omega) ⟨A', _, cap', _, rfl, rfl, ?_, rfl, hg'⟩, ?_⟩
    · show 0 + bs.length = bs.length; omega
    · rintro v' h' ho
      exact ⟨_, Ent.refl _, ho⟩

theorem same_ok (R : Rd) (v u : Value) (x y : List UInt8) (hv : BsR R v x) (hu : BsR R u y) (hxl : x.length < 9223372036854775807) :
    Fn Try.prog 15 [v, u] [] R (fun r h => r = .bool (decide (x = y)) ∧ h = []) := by
  obtain ⟨A, cap, rfl⟩ := hv.form
  obtain ⟨A2, cap2, rfl⟩ := hu.form
  refine fn_of_vc mixed tabOk Try.func15 rfl (by kernel_rfl) (Nat.le_of_ble_eq_true rfl) ?_
  refine ⟨fun hb => ?_, fun hb => ?_⟩
  · refine ⟨_, Ent.refl _, ?_, rfl⟩
    show Value.bool false = _
    rw [decide_eq_false]
    rintro rfl
    simp at hb
  · have hl : x.length = y.length := by simp at hb; omega
    clear hb
    refine ⟨[4, 5, 11, 12, 13, 14, 15, 16, 17, 18, 19, 20, 21, 22, 23, 24, 25], [4, 5], Nat, fun i => i ≤ x.length ∧ x.take i = y.take i, fun i => [.bool false, .int .i64 i], fun _ => [], fun i => x.length - i, 0, ⟨by omega, by simp⟩, ⟨rfl, rfl, trivial⟩, Ent.refl _, ?_⟩
    rintro i ⟨hi, ht⟩ js
    refine ⟨fun hb => ?_, fun hb => ?_⟩
    · replace hb := of_decide_eq_true hb
      have h1 : i < x.length := by omega
      have h2 : i < y.length := by omega
      obtain ⟨a, rfl, hRa⟩ := hv.at_ (List.getElem?_eq_getElem h1)
      obtain ⟨a2, rfl, hRa2⟩ := hu.at_ (List.getElem?_eq_getElem h2)
      refine ⟨[], lexT 0 9, by kernel_rfl, ?_⟩
      refine ⟨by omega, by omega, a, rfl, ?_⟩
      refine ⟨_, ro (ld1 hRa), ?_⟩
      refine ⟨by omega, by omega, a2, rfl, ?_⟩
      refine ⟨_, ro (ld1 hRa2), ?_⟩
      refine ⟨fun hb => ?_, fun hb => ?_⟩
      · refine ⟨_, Ent.refl _, ?_, rfl⟩
        show Value.bool false = _
        rw [decide_eq_false]
        rintro rfl
        simp at hb
      · have he : x[i] = y[i] := UInt8.toNat.inj (by simp at hb; omega)
        (intro z hz; obtain rfl := wr_i64 hz (by omega) (by omega); clear hz)
        exact ⟨rfl, i + 1, ⟨by omega, take_succ_eq ht (List.getElem?_eq_getElem h1) (by rw [he]; exact List.getElem?_eq_getElem h2)⟩, by show x.length - (i + 1) < x.length - i; omega, ⟨rfl, rfl, trivial⟩, Ent.refl _, rfl⟩
    · replace hb := of_decide_eq_false hb
      have : i = x.length := by omega
      subst this
      refine ⟨_, Ent.refl _, ?_, rfl⟩
      show Value.bool true = _
      rw [decide_eq_true (eq_of_take hl ht)]

end Go.Proofs.Ytknilabilihlnaa
