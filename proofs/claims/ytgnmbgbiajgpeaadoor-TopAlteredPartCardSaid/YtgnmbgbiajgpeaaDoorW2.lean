/-
  Contracts of the functions of package wire (and of its reference) that compute with numbers.
-/
import Derived.Test.YtgnmbgbiajgpeaaDoorW1
import Derived.Test.YtgnmbgbiajgpeaaDoorTab
namespace Go.Proofs.YtgnmbgbiajgpeaaDoor
open Go Go.RowKit

theorem UintSize_ok (R : Rd) (n : Nat) (h2 : n ≤ 18446744073709551615) : Fn Tryd.prog 38 [.int .u64 n] [] R (fun v h => v = .int .i64 (usize n) ∧ h = []) := by
  have h10 := usize_le10 h2
  refine fn_of_vc mixed tabOk Tryd.func38 rfl (by kernel_rfl) (Nat.le_of_ble_eq_true rfl) ?_
  refine ⟨[some 0, none, none, some 3, some 4, some 5, some 6, some 7, some 8, some 9], [0,3], Nat × Nat, fun ⟨m, s⟩ => m ≤ n ∧ s + usize m = 1 + usize n, fun ⟨m, s⟩ => [.int .u64 m, .int .i64 s], fun _ => [], fun ⟨m, s⟩ => m, (n, 1), ⟨Nat.le_refl _, rfl⟩, ⟨rfl, rfl, trivial⟩, Ent.refl _, ?_⟩
  rintro ⟨m, s⟩ ⟨hm, hs⟩ js
  refine ⟨fun hb => ?_, fun hb => ?_⟩
  · replace hb := of_decide_eq_true hb
    refine ⟨by omega, ?_⟩
    intro z hz; obtain rfl := shr_7 hz; clear hz
    have hu := usize_big (n := m) (by omega)
    (intro z hz; obtain rfl := wr_i64 hz (by omega) (by omega); clear hz)
    exact ⟨rfl, (m / 128, s + 1), ⟨by omega, by omega⟩, by show m / 128 < m; omega, ⟨rfl, rfl, trivial⟩, Ent.refl _, rfl⟩
  · replace hb := of_decide_eq_false hb
    refine ⟨_, Ent.refl _, ?_, rfl⟩
    have hu := usize_small (n := m) (by omega)
    show Value.int _ _ = _
    congr 1
    omega

/-- Bytes of the call's own. -/
def OwnB (v : Value) (bs : List UInt8) (h : Hp) : Prop :=
  ∃ A k cap xs, v = .slice A k cap ∧ h = [.row A k cap 5 1 xs (0, 0)] ∧ k = bs.length ∧ xs = BV bs ∧ grow k A

theorem extend_ok (R : Rd) (v : Value) (bs : List UInt8) (h : Hp) (n : Nat) (h2 : n ≤ 18446744073709551615) (hb : bs.length ≤ 140737488000000) (ho : OwnB v bs h) :
    Fn Tryd.prog 81 [v, .int .u64 n] h R (fun v' h' => OwnB v' (bs ++ num n) h') := by
  obtain ⟨A, k, cap, xs, rfl, rfl, hk, hxs, hg⟩ := ho
  have h10 := usize_le10 h2
  have hML := maxLen_eq
  refine fn_of_vc mixed tabOk Tryd.func81 rfl (by kernel_rfl) (Nat.le_of_ble_eq_true rfl) ?_
  refine ⟨[some 0, some 1, none, none, none, some 5, some 6, some 7, some 8, some 9, some 10, some 11, some 12, some 13, some 14], [0, 1], Option Addr × Nat × Nat × List Value × Nat × List UInt8, fun ⟨A, k, cap, xs, m, cs⟩ => xs = BV cs ∧ k = cs.length ∧ cs ++ num m = bs ++ num n ∧ m ≤ n ∧ k + usize m = bs.length + usize n ∧ grow k A,
    fun ⟨A, k, cap, xs, m, cs⟩ => [.slice A k cap, .int .u64 m], fun ⟨A, k, cap, xs, m, cs⟩ => [.row A k cap 5 1 xs (0, 0)], fun ⟨A, k, cap, xs, m, cs⟩ => m, (A, k, cap, xs, n, bs), ⟨hxs, hk, rfl, Nat.le_refl _, by omega, hg⟩, ⟨rfl, rfl, trivial⟩, Ent.refl _, ?_⟩
  rintro ⟨A, k, cap, xs, m, cs⟩ ⟨hxs, hk, hcs, hm, hu, hg⟩ js
  refine ⟨fun hb => ?_, fun hb => ?_⟩
  · replace hb := of_decide_eq_true hb
    have hu2 := usize_big (n := m) (by omega)
    intro z hz
    have hz2 : z = ((m % 256 : Nat) : Int) := by rw [hz, IntKind.wrap_u8]; omega
    subst hz2; clear hz
    intro z hz
    rw [bor128 _ (by omega)] at hz
    subst hz
    refine ⟨rfl, fun g => ?_⟩
    refine ⟨[Value.int .u8 ((m % 256 % 128 + 128 : Nat) : Int)], rfl, rdRow 1 rfl, rfl, by show (_ + _) * 1 ≤ _; omega, by omega, .inr ⟨0, rfl, rfl, rfl, rfl, rfl, rfl, fun A' cap' hg' => ?_⟩⟩
    refine ⟨by omega, ?_⟩
    intro z hz; obtain rfl := shr_7 hz; clear hz
    refine ⟨rfl, (A', k + 1, cap', xs ++ [Value.int .u8 ((m % 256 % 128 + 128 : Nat) : Int)], m / 128, cs ++ [UInt8.ofNat (m % 128 + 128)]), ⟨?_, ?_, ?_, by omega, by omega, hg'⟩, by show m / 128 < m; omega, ⟨rfl, rfl, trivial⟩, Ent.drop [_] [_], rfl⟩
    · have e : ((m % 256 % 128 + 128 : Nat) : Int).toNat = m % 128 + 128 := by omega
      rw [hxs, BV_append, BV_singleton (by omega) (by omega), e]
    · rw [hk]; simp
    · rw [← hcs, num_big (n := m) (by omega)]; simp
  · replace hb := of_decide_eq_false hb
    have hu2 := usize_small (n := m) (by omega)
    intro z hz
    have hz2 : z = (m : Int) := by rw [hz, IntKind.wrap_u8]; omega
    subst hz2; clear hz
    refine ⟨rfl, fun g => ?_⟩
    refine ⟨[Value.int .u8 (m : Int)], rfl, rdRow 1 rfl, rfl, by show (_ + _) * 1 ≤ _; omega, by omega, .inr ⟨0, rfl, rfl, rfl, rfl, rfl, rfl, fun A' cap' hg' => ?_⟩⟩
    refine ⟨_, Ent.drop [_] [_], A', k + 1, cap', _, rfl, rfl, ?_, ?_, hg'⟩
    · rw [← hcs, hk, num_small (n := m) (by omega)]; simp
    · rw [← hcs, hxs, BV_append, num_small (n := m) (by omega), BV_singleton (by omega) (by omega)]; simp

theorem AppendUint_ok (R : Rd) (v : Value) (bs : List UInt8) (n : Nat) (h2 : n ≤ 18446744073709551615) (hb : bs.length ≤ 140737487900000) (hr : BsR R v bs) :
    Fn Tryd.prog 64 [v, .int .u64 n] [] R (fun v' h' => OwnB v' (bs ++ num n) h') := by
  obtain ⟨A, cap, rfl⟩ := hr.form
  have hML := maxLen_eq
  refine fn_of_vc mixed tabOk Tryd.func64 rfl (by kernel_rfl) (Nat.le_of_ble_eq_true rfl) ?_
  (intro z hz; obtain rfl := wr_i64 hz (by omega) (by omega); clear hz)
  refine ⟨by omega, by omega, by show (1 : Int) * _ ≤ _; omega, by omega, fun g => ?_⟩
  refine ⟨BV bs, ?_, (hr.rh _).src, BV_one _, by show (_ + _) * 1 ≤ _; omega, by omega, .inr ⟨0, rfl, rfl, rfl, rfl, rfl, rfl, fun A' cap' hg' => ?_⟩⟩
  · rw [BV_length]; exact (Nat.mul_one _).symm
  · refine ⟨[0], _, extend_ok _ _ bs _ n h2 (by omega) ⟨A', _, cap', _, rfl, rfl, ?_, rfl, hg'⟩, ?_⟩
    · show 0 + bs.length = bs.length; omega
    · rintro v' h' ho
      exact ⟨_, Ent.refl _, ho⟩

end Go.Proofs.YtgnmbgbiajgpeaaDoor

namespace Go.Proofs.YtgnmbgbiajgpeaaDoor
open Go Go.RowKit

/-- What Done returns. -/
def doneB (bs : List UInt8) (e : Int) : List UInt8 := if e = 0 ∧ bs.length ≤ 1048576 then bs else []
def doneE (bs : List UInt8) (e : Int) : Int := if e = 0 then (if bs.length ≤ 1048576 then 0 else 2) else e

end Go.Proofs.YtgnmbgbiajgpeaaDoor

namespace Go.Proofs.YtgnmbgbiajgpeaaDoor
open Go Go.RowKit

theorem pow128 (i : Nat) : 2 ^ (7 * i) = 128 ^ i := by rw [Nat.pow_mul]

theorem shl_step {z : Int} {c i : Nat} (hi : i ≤ 9) (hc : c * 128 ^ i < 18446744073709551616) (hz : z = IntKind.u64.wrap ((c : Int) * 2 ^ (min (Int.toNat (7 * (i : Int))) IntKind.u64.bits))) : z = ((c * 2 ^ (7 * i) : Nat) : Int) := by
  have e : min (Int.toNat (7 * (i : Int))) IntKind.u64.bits = 7 * i := by
    have : IntKind.u64.bits = 64 := rfl
    omega
  have e2 : ((c : Int) * 2 ^ (7 * i)) = ((c * 2 ^ (7 * i) : Nat) : Int) := by push_cast; rfl
  rw [hz, e, e2]
  rw [← pow128] at hc
  exact wr_u64 rfl (by omega) (by omega)

theorem shl_any {z : Int} {x : Int} (hz : z = IntKind.u64.wrap x) : ∃ m : Nat, z = (m : Int) ∧ m < 18446744073709551616 := by
  rw [IntKind.wrap_u64] at hz
  exact ⟨z.toNat, by omega, by omega⟩

end Go.Proofs.YtgnmbgbiajgpeaaDoor

namespace Go.Proofs.YtgnmbgbiajgpeaaDoor
open Go Go.RowKit

theorem ent_after (a b c d e : HA) (l : Hp) : Ent (([a] ++ l) ++ [b, c, d, e]) ([b, a, d] ++ l) := by
  have p1 : (([a] ++ l) ++ [b, c, d, e]).Perm (b :: c :: d :: e :: a :: l) := List.perm_append_comm
  have p2 : (b :: c :: d :: e :: a :: l).Perm (c :: e :: b :: a :: d :: l) :=
    (List.Perm.swap c b _).trans (List.Perm.cons c ((List.Perm.cons b ((List.Perm.swap e d _).trans (List.Perm.cons e (List.Perm.swap a d _)))).trans (List.Perm.swap e b _)))
  exact (Ent.perm (p1.trans p2)).trans (Ent.dropr [c, e] ([b, a, d] ++ l))

end Go.Proofs.YtgnmbgbiajgpeaaDoor

namespace Go.Proofs.YtgnmbgbiajgpeaaDoor
open Go Go.RowKit

/-- A number of at most 'most': the error, the number, what is left. -/
def limD (most : Int) (l : List UInt8) : Int × Nat × List UInt8 :=
  match dec l with
  | .none => (3, 0, [])
  | some (n, r) => if max most 0 < (n : Int) then (2, 0, []) else (0, n, r)

theorem dec_len {l : List UInt8} {n : Nat} {r : List UInt8} (h : dec l = some (n, r)) : l.length = usize n + r.length := by
  have := congrArg List.length (dec_iff.1 h).1
  simp only [List.length_append, length_num] at this
  exact this

/-- The bytes of a block of at most 'most': the error, the bytes, what is left. -/
def blkD (most : Int) (l : List UInt8) : Int × List UInt8 × List UInt8 :=
  if (limD most l).1 = 0 then
    if (limD most l).2.2.length < (limD most l).2.1 then (3, [], [])
    else (0, (limD most l).2.2.take (limD most l).2.1, (limD most l).2.2.drop (limD most l).2.1)
  else ((limD most l).1, [], [])

theorem limD_le {most : Int} {l : List UInt8} (h : most ≤ 9223372036854775807) : ((limD most l).2.1 : Int) ≤ 9223372036854775807 := by
  unfold limD
  split
  · simp
  · split
    · simp
    · show (_ : Int) ≤ _
      simp only
      omega

theorem limD_drop {most : Int} {l : List UInt8} (h : (limD most l).1 = 0) : ∃ o, (limD most l).2.2 = l.drop o ∧ o ≤ l.length := by
  unfold limD at h ⊢
  cases hd : dec l with
  | none => rw [hd] at h; simp at h
  | some p =>
    obtain ⟨n, r⟩ := p
    rw [hd] at h
    simp only at h ⊢
    have := (dec_iff.1 hd).1
    split
    · rename_i hh; rw [if_pos hh] at h; simp at h
    · refine ⟨usize n, ?_, ?_⟩
      · simp only
        rw [this, ← length_num, List.drop_left]
      · have := dec_len hd; omega

end Go.Proofs.YtgnmbgbiajgpeaaDoor

namespace Go.Proofs.YtgnmbgbiajgpeaaDoor
open Go Go.RowKit

/-! What each kind of read gives: the error, the value, what is left. -/
def uintD (l : List UInt8) : Int × Nat × List UInt8 := match dec l with | .none => (3, 0, []) | some (n, r) => (0, n, r)
def boolD : List UInt8 → Int × Bool × List UInt8
  | [] => (3, false, [])
  | b :: r => if 1 < b.toNat then (3, false, []) else (0, decide (b.toNat = 1), r)
def sumD (l : List UInt8) : Int × List UInt8 × List UInt8 := if l.length < 32 then (3, [], []) else (0, l.take 32, l.drop 32)

/-- The state of a reader after a read. -/
def nxt (data : List UInt8) (off last : Nat) (e : Int) (err : Int) (rest : List UInt8) : Nat × Nat × Int :=
  if e = 0 then (if err = 0 then (data.length - rest.length, off, 0) else (off, off, err)) else (off, last, e)

/-- The error that End returns. -/
def endE (data : List UInt8) (off : Nat) (e : Int) : Int := if e = 0 then (if off < data.length then 3 else 0) else e

end Go.Proofs.YtgnmbgbiajgpeaaDoor

namespace Go.Proofs.YtgnmbgbiajgpeaaDoor
open Go Go.RowKit

theorem num300 : num 300 = [172, 2] := by rw [num_big (by omega), num_small (by omega)]; rfl

end Go.Proofs.YtgnmbgbiajgpeaaDoor

namespace Go.Proofs.YtgnmbgbiajgpeaaDoor
open Go Go.RowKit

theorem take_part {bs : List UInt8} {o n : Nat} : ((BV bs).drop o).take n = BV ((bs.drop o).take n) := by
  simp [BV, List.map_drop, List.map_take]

theorem blkD_err {most : Int} {l : List UInt8} (h : (blkD most l).1 ≠ 0) : (blkD most l).2.1 = [] := by
  unfold blkD at h ⊢
  split
  · split
    · rfl
    · rename_i h1 h2; rw [if_pos h1, if_neg h2] at h; simp at h
  · rfl

theorem limD_err {most : Int} {l : List UInt8} (h : (limD most l).1 ≠ 0) : (limD most l).2.1 = 0 := by
  unfold limD at h ⊢
  split
  · rfl
  · split
    · rfl
    · rename_i hd hm; rw [hd] at h; simp [hm] at h

theorem uintD_le (l : List UInt8) : (uintD l).2.1 ≤ 18446744073709551615 := by
  unfold uintD
  split
  · simp
  · rename_i h; exact (dec_iff.1 h).2

end Go.Proofs.YtgnmbgbiajgpeaaDoor
