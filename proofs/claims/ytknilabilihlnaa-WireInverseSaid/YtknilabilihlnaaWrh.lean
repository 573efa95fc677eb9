/-
  The laws on numbers: the walks.
-/
import Derived.Test.YtknilabilihlnaaWrg
import Derived.Test.YtknilabilihlnaaVcl
namespace Go.Proofs.Ytknilabilihlnaa
open Go Go.RowKit

set_option maxRecDepth 100000 in
set_option maxHeartbeats 4000000 in
theorem WireNumbers_ok (R : Rd) (v : Value) (data : List UInt8) (n : Nat) (z : Int) (hn : n ≤ 18446744073709551615) (hz1 : -9223372036854775808 ≤ z) (hz2 : z ≤ 9223372036854775807) (hr : BsR R v data) :
    Fn Try.prog 3 [v, .int .u64 n, .int .i64 z] [] R (fun v _ => v = .bool true) := by
  obtain ⟨A, cap, rfl⟩ := hr.form
  have hML := maxLen_eq
  have h10 := usize_le10 hn
  have hln := length_num n
  refine fn_of_vc mixed tabOk Try.func3 rfl (by kernel_rfl) (Nat.le_of_ble_eq_true rfl) ?_
  refine ⟨[], _, awake_ok _, ?_⟩
  rintro v h' ⟨rfl, rfl⟩
  repeat (first | refine ⟨fun h => (by exfalso; first | (simp at h; done) | (simp at h; omega)), fun _ => ?_⟩ | refine ⟨fun _ => ?_, fun h => (by exfalso; first | (simp at h; done) | (simp at h; omega))⟩)
  refine ⟨fun hb => ?_, fun hb => ?_⟩
  · replace hb := of_decide_eq_true hb
    exact ⟨_, Ent.nil _, rfl⟩
  · replace hb := of_decide_eq_false hb
    refine ⟨rfl, fun g1 => ?_⟩
    refine ⟨BV data, by rw [BV_length]; exact (Nat.mul_one _).symm, (hr.rh _).src, BV_one _, by show (_ + _) * 1 ≤ _; omega, by omega, .inr ⟨0, rfl, rfl, rfl, rfl, rfl, rfl, fun A' cap' hg' => ?_⟩⟩
    refine ⟨[], _, Number_ok _ n hn, ?_⟩
    rintro v h' ⟨A1, k1, cap1, xs1, rfl, rfl, hk1, hx1, hg1⟩
    subst hx1
    refine ⟨BV (num n), by rw [BV_length, hk1]; exact (Nat.mul_one _).symm, (BsR.own 1 rfl hk1 rfl hg1).src, BV_one _, by show (_ + _) * 1 ≤ _; omega, by omega, .inr ⟨0, rfl, rfl, rfl, rfl, rfl, rfl, fun A2 cap2 hg2 => ?_⟩⟩
    refine ⟨[], _, AppendUint_ok _ _ data n hn (by omega) (hr.rh _), ?_⟩
    rintro v h' ⟨A3, k3, cap3, xs3, rfl, rfl, hk3, hx3, hg3⟩
    repeat (first | refine ⟨fun h => (by exfalso; first | (simp at h; done) | (simp at h; omega)), fun _ => ?_⟩ | refine ⟨fun _ => ?_, fun h => (by exfalso; first | (simp at h; done) | (simp at h; omega))⟩)
    have hx2 : (repl (cls ti5.zero) 0 ++ BV data) ++ BV (num n) = BV (data ++ num n) := by rw [BV_append]; rfl
    refine ⟨[], _, same_ok _ _ _ (data ++ num n) (data ++ num n) (BsR.own 2 rfl hk3 hx3 hg3) (BsR.own 0 rfl (by rw [List.length_append]; omega) hx2 hg2) (by rw [List.length_append]; omega), ?_⟩
    rintro v h' ⟨rfl, rfl⟩
    repeat (first | refine ⟨fun h => (by exfalso; first | (simp at h; done) | (simp at h; omega)), fun _ => ?_⟩ | refine ⟨fun _ => ?_, fun h => (by exfalso; first | (simp at h; done) | (simp at h; omega))⟩)
    refine ⟨[], _, UintSize_ok _ n hn, ?_⟩
    rintro v h' ⟨rfl, rfl⟩
    repeat (first | refine ⟨fun h => (by exfalso; first | (simp at h; done) | (simp at h; omega)), fun _ => ?_⟩ | refine ⟨fun _ => ?_, fun h => (by exfalso; first | (simp at h; done) | (simp at h; omega))⟩)
    refine ⟨[], _, Number_ok _ n hn, ?_⟩
    rintro v h' ⟨A4, k4, cap4, xs4, rfl, rfl, hk4, hx4, hg4⟩
    repeat (first | refine ⟨fun h => (by exfalso; first | (simp at h; done) | (simp at h; omega)), fun _ => ?_⟩ | refine ⟨fun _ => ?_, fun h => (by exfalso; first | (simp at h; done) | (simp at h; omega))⟩)
    refine ⟨[], _, Zigzag_ok _ z hz1 hz2, ?_⟩
    rintro v h' ⟨rfl, rfl⟩
    repeat (first | refine ⟨fun h => (by exfalso; first | (simp at h; done) | (simp at h; omega)), fun _ => ?_⟩ | refine ⟨fun _ => ?_, fun h => (by exfalso; first | (simp at h; done) | (simp at h; omega))⟩)
    refine ⟨[], _, refZigzag_ok _ z hz1 hz2, ?_⟩
    rintro v h' ⟨rfl, rfl⟩
    repeat (first | refine ⟨fun h => (by exfalso; first | (simp at h; done) | (simp at h; omega)), fun _ => ?_⟩ | refine ⟨fun _ => ?_, fun h => (by exfalso; first | (simp at h; done) | (simp at h; omega))⟩)
    refine ⟨[], _, Unzigzag_ok _ n hn, ?_⟩
    rintro v h' ⟨rfl, rfl⟩
    repeat (first | refine ⟨fun h => (by exfalso; first | (simp at h; done) | (simp at h; omega)), fun _ => ?_⟩ | refine ⟨fun _ => ?_, fun h => (by exfalso; first | (simp at h; done) | (simp at h; omega))⟩)
    refine ⟨[], _, refUnzigzag_ok _ n hn, ?_⟩
    rintro v h' ⟨rfl, rfl⟩
    repeat (first | refine ⟨fun h => (by exfalso; first | (simp at h; done) | (simp at h; omega)), fun _ => ?_⟩ | refine ⟨fun _ => ?_, fun h => (by exfalso; first | (simp at h; done) | (simp at h; omega))⟩)
    refine ⟨_, Ent.nil _, ?_⟩
    show Value.bool (decide (zag n = zag n)) = _
    simp

/-- How often a number can be shifted by seven till it is 0. -/
def uz (n : Nat) : Nat := if n = 0 then 0 else usize n
theorem usize_uz (n : Nat) : usize n = 1 + uz (n / 128) := by
  unfold uz
  by_cases h : n < 128
  · rw [usize_small h, if_pos (by omega)]
  · rw [usize_big (by omega), if_neg (by omega)]; omega
theorem uz_pos {n : Nat} (h : 0 < n) : uz n = 1 + uz (n / 128) := by
  rw [← usize_uz, uz, if_neg (by omega)]

set_option maxRecDepth 100000 in
set_option maxHeartbeats 4000000 in
theorem WireInverse_ok (R : Rd) (n : Nat) (z : Int) (hn : n ≤ 18446744073709551615) (hz1 : -9223372036854775808 ≤ z) (hz2 : z ≤ 9223372036854775807) :
    Fn Try.prog 4 [.int .u64 n, .int .i64 z] [] R (fun v _ => v = .bool true) := by
  have h10 := usize_le10 hn
  have hln := length_num n
  have hzn : ∃ m : Nat, zig z = m ∧ m ≤ 18446744073709551615 ∧ zag m = z := by
    refine ⟨(zig z).toNat, by have := zig_nonneg z; omega, by have := zig_le hz1 hz2; omega, zag_zig z⟩
  obtain ⟨m, hm, hmle, hmz⟩ := hzn
  have hzz := zig_zag n
  obtain ⟨hl1, hl2⟩ := zag_lo hn
  refine fn_of_vc mixed tabOk Try.func4 rfl (by kernel_rfl) (Nat.le_of_ble_eq_true rfl) ?_
  refine ⟨[], _, awake_ok _, ?_⟩
  rintro v h' ⟨rfl, rfl⟩
  repeat (first | refine ⟨fun h => (by exfalso; first | (simp at h; done) | (simp at h; omega)), fun _ => ?_⟩ | refine ⟨fun _ => ?_, fun h => (by exfalso; first | (simp at h; done) | (simp at h; omega))⟩)
  refine ⟨[], _, Zigzag_ok _ z hz1 hz2, ?_⟩
  rintro v h' ⟨rfl, rfl⟩
  rw [hm]
  refine ⟨[], _, Unzigzag_ok _ m hmle, ?_⟩
  rintro v h' ⟨rfl, rfl⟩
  rw [hmz]
  repeat (first | refine ⟨fun h => (by exfalso; first | (simp at h; done) | (simp at h; omega)), fun _ => ?_⟩ | refine ⟨fun _ => ?_, fun h => (by exfalso; first | (simp at h; done) | (simp at h; omega))⟩)
  refine ⟨[], _, Unzigzag_ok _ n hn, ?_⟩
  rintro v h' ⟨rfl, rfl⟩
  repeat (first | refine ⟨fun h => (by exfalso; first | (simp at h; done) | (simp at h; omega)), fun _ => ?_⟩ | refine ⟨fun _ => ?_, fun h => (by exfalso; first | (simp at h; done) | (simp at h; omega))⟩)
  refine ⟨[], _, Zigzag_ok _ (zag n) hl1 hl2, ?_⟩
  rintro v h' ⟨rfl, rfl⟩
  rw [hzz]
  repeat (first | refine ⟨fun h => (by exfalso; first | (simp at h; done) | (simp at h; omega)), fun _ => ?_⟩ | refine ⟨fun _ => ?_, fun h => (by exfalso; first | (simp at h; done) | (simp at h; omega))⟩)
  refine ⟨by omega, ?_⟩
  intro z' hz'; obtain rfl := shr_7 hz'; clear hz'
  refine ⟨[5, 6, 23, 24, 25, 26, 27, 28], [5, 6], Nat × Nat, fun ⟨m, s⟩ => m ≤ n ∧ s + uz m = usize n, fun ⟨m, s⟩ => [.int .i64 s, .int .u64 m], fun _ => [], fun ⟨m, s⟩ => m, (n / 128, 1), ⟨by omega, by rw [usize_uz]⟩, ⟨rfl, rfl, trivial⟩, Ent.nil _, ?_⟩
  rintro ⟨m, s⟩ ⟨hm', hs⟩ js
  refine ⟨fun hb => ?_, fun hb => ?_⟩
  · replace hb := of_decide_eq_true hb
    have hu := uz_pos (n := m) (by omega)
    (intro z hz; obtain rfl := wr_i64 hz (by omega) (by omega); clear hz)
    refine ⟨by omega, ?_⟩
    intro z hz; obtain rfl := shr_7 hz; clear hz
    exact ⟨rfl, (m / 128, s + 1), ⟨by omega, by omega⟩, by show m / 128 < m; omega, ⟨rfl, rfl, trivial⟩, Ent.refl _, rfl⟩
  · replace hb := of_decide_eq_false hb
    have hu : m = 0 := by omega
    subst hu
    have hs : s = usize n := by rw [← hs]; rfl
    refine ⟨[], _, UintSize_ok _ n hn, ?_⟩
    rintro v h' ⟨rfl, rfl⟩
    repeat (first | refine ⟨fun h => (by exfalso; first | (simp at h; done) | (simp at h; omega)), fun _ => ?_⟩ | refine ⟨fun _ => ?_, fun h => (by exfalso; first | (simp at h; done) | (simp at h; omega))⟩)
    refine ⟨[], _, AppendUint_ok _ _ [] n hn (by simp) (BsR.nilv _), ?_⟩
    rintro v h' ⟨A4, k4, cap4, xs4, rfl, rfl, hk4, hx4, hg4⟩
    rw [List.nil_append] at hk4
    repeat (first | refine ⟨fun h => (by exfalso; first | (simp at h; done) | (simp at h; omega)), fun _ => ?_⟩ | refine ⟨fun _ => ?_, fun h => (by exfalso; first | (simp at h; done) | (simp at h; omega))⟩)
    refine ⟨_, Ent.nil _, ?_⟩
    show Value.bool (decide ((k4 : Int) = (s : Int))) = _
    rw [decide_eq_true (by omega)]

theorem WireNumbers_law (R : Rd) (v0 v1 v2 : Value) (s0 : SeenV R (.sl 1 (.int .u8)) v0) (s1 : SeenV R (.int .u64) v1) (s2 : SeenV R (.int .i64) v2) :
    Fn Try.prog 3 [v0, v1, v2] [] R (fun v _ => v = .bool true) := by
  obtain ⟨data, _, hb⟩ := s0.bytes
  obtain ⟨n, rfl, hn⟩ := s1.u64
  obtain ⟨z, rfl, h1, h2⟩ := s2.i64
  exact WireNumbers_ok R v0 data n z hn h1 h2 hb

theorem WireInverse_law (R : Rd) (v0 v1 : Value) (s0 : SeenV R (.int .u64) v0) (s1 : SeenV R (.int .i64) v1) :
    Fn Try.prog 4 [v0, v1] [] R (fun v _ => v = .bool true) := by
  obtain ⟨n, rfl, hn⟩ := s0.u64
  obtain ⟨z, rfl, h1, h2⟩ := s1.i64
  exact WireInverse_ok R n z hn h1 h2

end Go.Proofs.Ytknilabilihlnaa
