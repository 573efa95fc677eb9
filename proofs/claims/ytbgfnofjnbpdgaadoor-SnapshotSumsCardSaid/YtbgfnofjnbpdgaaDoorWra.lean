/-
  Contracts of the functions of package wire (and of its reference) that compute with numbers.
-/
import Derived.Test.YtbgfnofjnbpdgaaDoorWma
import Derived.Test.YtbgfnofjnbpdgaaDoorTab
namespace Go.Proofs.YtbgfnofjnbpdgaaDoor
open Go Go.RowKit

/-- Bytes of the call's own. -/
def OwnB (v : Value) (bs : List UInt8) (h : Hp) : Prop :=
  ∃ A k cap xs, v = .slice A k cap ∧ h = [.row A k cap 5 1 xs (0, 0)] ∧ k = bs.length ∧ xs = BV bs ∧ grow k A

theorem extend_ok (R : Rd) (v : Value) (bs : List UInt8) (h : Hp) (n : Nat) (h2 : n ≤ 18446744073709551615) (hb : bs.length ≤ 140737488000000) (ho : OwnB v bs h) :
    Fn Tryd.prog 100 [v, .int .u64 n] h R (fun v' h' => OwnB v' (bs ++ num n) h') := by
  obtain ⟨A, k, cap, xs, rfl, rfl, hk, hxs, hg⟩ := ho
  have h10 := usize_le10 h2
  have hML := maxLen_eq
  refine fn_of_vc mixed tabOk Tryd.func100 rfl (by kernel_rfl) (Nat.le_of_ble_eq_true rfl) ?_
  refine ⟨[some 0, some 1, none, none, none, some 5, some 6, some 7, some 8, some 9, some 10, some 11, some 12, some 13, some 14], [0, 1], Option Addr × Nat × Nat × List Value × Nat × List UInt8, fun ⟨A, k, cap, xs, m, cs⟩ => xs = BV cs ∧ k = cs.length ∧ cs ++ num m = bs ++ num n ∧ m ≤ n ∧ k + usize m = bs.length + usize n ∧ grow k A,
    fun ⟨A, k, cap, xs, m, cs⟩ => [.slice A k cap, .int .u64 m], fun ⟨A, k, cap, xs, m, cs⟩ => [.row A k cap 5 1 xs (0, 0)], fun ⟨A, k, cap, xs, m, cs⟩ => m, (A, k, cap, xs, n, bs), ⟨hxs, hk, rfl, Nat.le_refl _, by omega, hg⟩, ⟨rfl, rfl, trivial⟩, Ent.refl _, ?_⟩
  rintro ⟨A, k, cap, xs, m, cs⟩ ⟨hxs, hk, hcs, hm, hu, hg⟩ js
  refine ⟨fun hb => ?_, fun hb => ?_⟩
  · replace hb := of_decide_eq_true hb
    have hu2 := usize_big (n := m) (by omega)
    intro z hz
    have hz2 : z = ((m % 256 : Nat) : Int) := by rw [hz, IntKind.wrap_u8]; omega
    subst hz2; clear hz
    intro z hz
    rw [bor128 _ (by omega)] at hz
    subst hz
    refine ⟨rfl, fun g => ?_⟩
    refine ⟨[Value.int .u8 ((m % 256 % 128 + 128 : Nat) : Int)], rfl, rdRow 1 rfl, rfl, by show (_ + _) * 1 ≤ _; omega, by omega, .inr ⟨0, rfl, rfl, rfl, rfl, rfl, rfl, fun A' cap' hg' => ?_⟩⟩
    refine ⟨by omega, ?_⟩
    intro z hz; obtain rfl := shr_7 hz; clear hz
    refine ⟨rfl, (A', k + 1, cap', xs ++ [Value.int .u8 ((m % 256 % 128 + 128 : Nat) : Int)], m / 128, cs ++ [UInt8.ofNat (m % 128 + 128)]), ⟨?_, ?_, ?_, by omega, by omega, hg'⟩, by show m / 128 < m; omega, ⟨rfl, rfl, trivial⟩, Ent.drop [_] [_], rfl⟩
    · have e : ((m % 256 % 128 + 128 : Nat) : Int).toNat = m % 128 + 128 := by omega
      rw [hxs, BV_append, BV_singleton (by omega) (by omega), e]
    · rw [hk]; simp
    · rw [← hcs, num_big (n := m) (by omega)]; simp
  · replace hb := of_decide_eq_false hb
    have hu2 := usize_small (n := m) (by omega)
    intro z hz
    have hz2 : z = (m : Int) := by rw [hz, IntKind.wrap_u8]; omega
    subst hz2; clear hz
    refine ⟨rfl, fun g => ?_⟩
    refine ⟨[Value.int .u8 (m : Int)], rfl, rdRow 1 rfl, rfl, by show (_ + _) * 1 ≤ _; omega, by omega, .inr ⟨0, rfl, rfl, rfl, rfl, rfl, rfl, fun A' cap' hg' => ?_⟩⟩
    refine ⟨_, Ent.drop [_] [_], A', k + 1, cap', _, rfl, rfl, ?_, ?_, hg'⟩
    · rw [← hcs, hk, num_small (n := m) (by omega)]; simp
    · rw [← hcs, hxs, BV_append, num_small (n := m) (by omega), BV_singleton (by omega) (by omega)]; simp

theorem refZigzag_ok (R : Rd) (n : Int) (h1 : -9223372036854775808 ≤ n) (h2 : n ≤ 9223372036854775807) : Fn Tryd.prog 78 [.int .i64 n] [] R (fun v h => v = .int .u64 (zig n) ∧ h = []) := by
  refine fn_of_vc mixed tabOk Tryd.func78 rfl (by kernel_rfl) (Nat.le_of_ble_eq_true rfl) ?_
  refine ⟨fun hb => ?_, fun hb => ?_⟩
  · replace hb := of_decide_eq_true hb
    (intro z hz; obtain rfl := wr_u64 hz (by omega) (by omega); clear hz)
    (intro z hz; obtain rfl := wr_u64 hz (by omega) (by omega); clear hz)
    refine ⟨_, Ent.refl _, ?_, rfl⟩
    show Value.int _ _ = _
    congr 1
    unfold zig; rw [if_neg (by omega)]
  · replace hb := of_decide_eq_false hb
    (intro z hz; obtain rfl := wr_i64 hz (by omega) (by omega); clear hz)
    (intro z hz; obtain rfl := wr_i64 hz (by omega) (by omega); clear hz)
    (intro z hz; obtain rfl := wr_u64 hz (by omega) (by omega); clear hz)
    (intro z hz; obtain rfl := wr_u64 hz (by omega) (by omega); clear hz)
    (intro z hz; obtain rfl := wr_u64 hz (by omega) (by omega); clear hz)
    refine ⟨_, Ent.refl _, ?_, rfl⟩
    show Value.int _ _ = _
    congr 1
    unfold zig; rw [if_pos (by omega)]; omega

theorem Number_ok (R : Rd) (n : Nat) (h2 : n ≤ 18446744073709551615) : Fn Tryd.prog 77 [.int .u64 n] [] R (fun v h => OwnB v (num n) h) := by
  have h10 := usize_le10 h2
  have hML := maxLen_eq
  refine fn_of_vc mixed tabOk Tryd.func77 rfl (by kernel_rfl) (Nat.le_of_ble_eq_true rfl) ?_
  refine ⟨rfl, fun g => ?_⟩
  refine ⟨[some 0, none, none, some 3, none, some 5, some 6, some 7, some 8, some 9, some 10, some 11, some 12, some 13, some 14, some 15], [0, 3], Option Addr × Nat × Nat × List Value × Nat × List UInt8, fun ⟨A, k, cap, xs, m, cs⟩ => xs = BV cs ∧ k = cs.length ∧ cs ++ num m = num n ∧ m ≤ n ∧ k + usize m = usize n ∧ grow k A,
    fun ⟨A, k, cap, xs, m, cs⟩ => [.int .u64 m, .slice A k cap], fun ⟨A, k, cap, xs, m, cs⟩ => [.row A k cap 5 1 xs (0, 0)], fun ⟨A, k, cap, xs, m, cs⟩ => m, (some ⟨g, 0, .none⟩, 0, 0, [], n, []), ⟨rfl, rfl, rfl, Nat.le_refl _, by omega, .inl rfl⟩, ⟨rfl, rfl, trivial⟩, Ent.refl _, ?_⟩
  rintro ⟨A, k, cap, xs, m, cs⟩ ⟨hxs, hk, hcs, hm, hu, hg⟩ js
  refine ⟨fun hb => ?_, fun hb => ?_⟩
  · replace hb := of_decide_eq_true hb
    have hu2 := usize_big (n := m) (by omega)
    refine ⟨by decide, ?_⟩
    intro z hz; obtain rfl : z = ((m % 128 : Nat) : Int) := hz
    (intro z hz; obtain rfl := wr_u8 hz (by omega) (by omega); clear hz)
    (intro z hz; obtain rfl := wr_u8 hz (by omega) (by omega); clear hz)
    refine ⟨rfl, fun g => ?_⟩
    refine ⟨[Value.int .u8 ((m % 128 + 128 : Nat) : Int)], rfl, rdRow 1 rfl, rfl, by show (_ + _) * 1 ≤ _; omega, by omega, .inr ⟨0, rfl, rfl, rfl, rfl, rfl, rfl, fun A' cap' hg' => ?_⟩⟩
    refine ⟨by decide, ?_⟩
    intro z hz; obtain rfl : z = ((m / 128 : Nat) : Int) := wr_u64 hz (show (0 : Int) ≤ ((m / 128 : Nat) : Int) by omega) (show ((m / 128 : Nat) : Int) ≤ _ by omega); clear hz
    refine ⟨rfl, (A', k + 1, cap', xs ++ [Value.int .u8 ((m % 128 + 128 : Nat) : Int)], m / 128, cs ++ [UInt8.ofNat (m % 128 + 128)]), ⟨?_, ?_, ?_, by omega, by omega, hg'⟩, by show m / 128 < m; omega, ⟨rfl, rfl, trivial⟩, Ent.drop [_] [_], rfl⟩
    · have e : ((m % 128 + 128 : Nat) : Int).toNat = m % 128 + 128 := by omega
      rw [hxs, BV_append, BV_singleton (by omega) (by omega), e]
    · rw [hk]; simp
    · rw [← hcs, num_big (n := m) (by omega)]; simp
  · replace hb := of_decide_eq_false hb
    have hu2 := usize_small (n := m) (by omega)
    (intro z hz; obtain rfl := wr_u8 hz (by omega) (by omega); clear hz)
    refine ⟨rfl, fun g => ?_⟩
    refine ⟨[Value.int .u8 (m : Int)], rfl, rdRow 1 rfl, rfl, by show (_ + _) * 1 ≤ _; omega, by omega, .inr ⟨0, rfl, rfl, rfl, rfl, rfl, rfl, fun A' cap' hg' => ?_⟩⟩
    refine ⟨_, Ent.drop [_] [_], A', k + 1, cap', _, rfl, rfl, ?_, ?_, hg'⟩
    · rw [← hcs, hk, num_small (n := m) (by omega)]; simp
    · rw [← hcs, hxs, BV_append, num_small (n := m) (by omega), BV_singleton (by omega) (by omega)]; simp

end Go.Proofs.YtbgfnofjnbpdgaaDoor
