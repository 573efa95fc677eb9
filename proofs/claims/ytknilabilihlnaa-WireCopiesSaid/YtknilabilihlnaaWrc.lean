/-
  Contracts of wire.Reader: a number, a limited number, a block.
-/
import Derived.Test.YtknilabilihlnaaWrb
import Derived.Test.YtknilabilihlnaaWmb
namespace Go.Proofs.Ytknilabilihlnaa
open Go Go.RowKit

/-- A reader at block g: its bytes, its offset, the offset of the value that was read last, its error. -/
def IsR (g : Nat) (data : List UInt8) (off last : Nat) (e : Int) (h : Hp) : Prop :=
  ∃ A k cap xs, h = [.blk g 70 [.slice A k cap, .int .i64 off, .int .i64 last, .int .i64 e], .row A k cap 5 1 xs (0, 0)] ∧ k = data.length ∧ xs = BV data ∧ grow k A

theorem pow128 (i : Nat) : 2 ^ (7 * i) = 128 ^ i := by rw [Nat.pow_mul]

theorem shl_step {z : Int} {c i : Nat} (hi : i ≤ 9) (hc : c * 128 ^ i < 18446744073709551616) (hz : z = IntKind.u64.wrap ((c : Int) * 2 ^ (min (Int.toNat (7 * (i : Int))) IntKind.u64.bits))) : z = ((c * 2 ^ (7 * i) : Nat) : Int) := by
  have e : min (Int.toNat (7 * (i : Int))) IntKind.u64.bits = 7 * i := by
    have : IntKind.u64.bits = 64 := rfl
    omega
  have e2 : ((c : Int) * 2 ^ (7 * i)) = ((c * 2 ^ (7 * i) : Nat) : Int) := by push_cast; rfl
  rw [hz, e, e2]
  rw [← pow128] at hc
  exact wr_u64 rfl (by omega) (by omega)

theorem shl_any {z : Int} {x : Int} (hz : z = IntKind.u64.wrap x) : ∃ m : Nat, z = (m : Int) ∧ m < 18446744073709551616 := by
  rw [IntKind.wrap_u64] at hz
  exact ⟨z.toNat, by omega, by omega⟩

set_option maxRecDepth 100000 in
set_option maxHeartbeats 4000000 in
theorem number_ok (R : Rd) (g : Nat) (data : List UInt8) (off last : Nat) (e : Int) (h : Hp) (ho : off ≤ data.length) (hd : data.length ≤ 9000000000000000000) (hr : IsR g data off last e h) :
    Fn Try.prog 58 [.pointer (some ⟨g, 0, .none⟩)] h R (fun v h' => ∃ off', off' ≤ data.length ∧ IsR g data off' last e h' ∧
      ((∃ n r, dec (data.drop off) = some (n, r) ∧ v = .tuple ⟨[.int .u64 n, .int .i64 0]⟩ ∧ off' = off + usize n) ∨ (dec (data.drop off) = .none ∧ v = .tuple ⟨[.int .u64 0, .int .i64 3]⟩))) := by
  obtain ⟨A, k, cap, xs, rfl, hk, hx, hg⟩ := hr
  have hxl : xs.length = k * 1 := by rw [hx, BV_length, hk, Nat.mul_one]
  refine fn_of_vc mixed tabOk Try.func58 rfl (by kernel_rfl) (Nat.le_of_ble_eq_true rfl) ?_
  refine ⟨[2, 3, 4, 5, 6, 7, 8, 9, 10, 11, 12, 13, 14, 15, 16, 17, 18, 19, 20, 21, 22, 23, 24, 25, 26, 27, 28, 29, 30, 31, 32, 33, 34, 35, 36, 37, 38, 39, 40, 41, 42, 43, 44, 45, 46, 47, 48, 49, 50, 51, 52, 53, 54, 55, 56, 57, 58, 59, 60, 61], [2, 6], Nat × Nat,
    fun ⟨i, acc⟩ => i ≤ 10 ∧ off + i ≤ data.length ∧ acc < 18446744073709551616 ∧ (i ≤ 9 → acc < 128 ^ i) ∧ dec (data.drop off) = (decG (10 - i) (data.drop (off + i))).map fun p => (acc + p.1 * 128 ^ i, p.2),
    fun ⟨i, acc⟩ => [.int .u64 acc, .int .i64 i], fun ⟨i, acc⟩ => [.blk g 70 [.slice A k cap, .int .i64 ((off + i : Nat) : Int), .int .i64 last, .int .i64 e], .row A k cap 5 1 xs (0, 0)], fun ⟨i, acc⟩ => 10 - i, (0, 0),
    ⟨by omega, by omega, by omega, fun _ => by simp, ?_⟩, ⟨rfl, rfl, trivial⟩, Ent.refl _, ?_⟩
  · show dec _ = _
    simp only [Nat.zero_add, Nat.pow_zero, Nat.mul_one, Nat.add_zero, Nat.sub_zero]
    cases hh : decG 10 (List.drop off data) with
    | none => exact hh
    | some p => exact hh
  rintro ⟨i, acc⟩ ⟨hi, hoi, hacc, hacc2, hdec⟩ js
  refine ⟨fun hb => ?_, fun hb => ?_⟩
  · replace hb := of_decide_eq_true hb
    have hi9 : i ≤ 9 := by omega
    have hj : 10 - i = (9 - i) + 1 := by omega
    rw [hj] at hdec
    refine ⟨[0], lexT 0 10, by kernel_rfl, ?_⟩
    refine ⟨_, ld 0 rfl rfl, ?_⟩
    refine ⟨_, ld 0 rfl rfl, ?_⟩
    refine ⟨fun he => ?_, fun he => ?_⟩
    · replace he := of_decide_eq_true he
      have hnil : data.drop (off + i) = [] := List.drop_eq_nil_of_le (by omega)
      rw [hnil] at hdec
      exact ⟨_, Ent.refl _, off + i, hoi, ⟨A, k, cap, xs, rfl, hk, hx, hg⟩, .inr ⟨hdec, rfl⟩⟩
    · replace he := of_decide_eq_false he
      have hlt : off + i < data.length := by omega
      have hxb : xs[off + i]? = some (.int .u8 (data[off + i].toNat : Int)) := by rw [hx]; exact BV_get (List.getElem?_eq_getElem hlt)
      rw [List.drop_eq_getElem_cons hlt] at hdec
      generalize hbe : data[off + i] = b at hdec hxb
      have hb256 := UInt8.toNat_lt b
      obtain ⟨g2, rfl⟩ := growA hg (by omega)
      refine ⟨[0, 0], lexT 0 11, by kernel_rfl, ?_⟩
      refine ⟨_, ld 0 rfl rfl, ?_⟩
      refine ⟨_, ld 0 rfl rfl, ?_⟩
      refine ⟨by omega, by omega, _, rfl, ?_⟩
      refine ⟨_, ldr1 1 rfl hxb, ?_⟩
      refine ⟨_, ld 0 rfl rfl, ?_⟩
      (intro z hz; obtain rfl := wr_i64 hz (by omega) (by omega); clear hz)
      refine ⟨rfl, rfl, 0, rfl, rfl, Nat.le_of_ble_eq_true rfl, ?_⟩
      intro z hz; rw [band127 _ (by omega)] at hz; subst hz
      intro z hz; obtain rfl : z = ((b.toNat % 128 : Nat) : Int) := wr_u64 hz (show (0 : Int) ≤ ((b.toNat % 128 : Nat) : Int) by omega) (show ((b.toNat % 128 : Nat) : Int) ≤ _ by omega)
      clear hz
      (intro z hz; obtain rfl := wr_i64 hz (by omega) (by omega); clear hz)
      refine ⟨by omega, ?_⟩
      intro z hz
      obtain ⟨m, rfl, hm⟩ := shl_any hz
      intro z2 hz2
      rw [bor_u64 hacc hm] at hz2
      subst hz2
      have hor : (acc ||| m) < 18446744073709551616 := Nat.or_lt_two_pow (n := 64) (by omega) (by omega)
      have hsum : (b.toNat % 128) * 128 ^ i < 18446744073709551616 → (acc ||| m) = acc + (b.toNat % 128) * 128 ^ i := by
        intro hlt
        have hz3 := shl_step hi9 hlt hz
        have : m = (b.toNat % 128) * 2 ^ (7 * i) := by omega
        rw [this, or_disjoint (by rw [pow128]; exact hacc2 hi9), pow128]
      have hp : (128 : Nat) ^ i ≤ 128 ^ 9 := Nat.pow_le_pow_right (by omega) hi9
      rw [decG] at hdec
      refine ⟨fun hb => ?_, fun hb => ?_⟩
      · replace hb := of_decide_eq_true hb
        rw [if_pos (by omega)] at hdec
        (intro z hz; obtain rfl := wr_i64 hz (by omega) (by omega); clear hz)
        refine ⟨rfl, (i + 1, acc ||| m), ⟨by omega, by omega, hor, fun h9 => ?_, ?_⟩, by show 10 - (i + 1) < 10 - i; omega, ⟨rfl, rfl, trivial⟩, Ent.refl _, rfl⟩
        · have h8 : (128 : Nat) ^ i ≤ 128 ^ 8 := Nat.pow_le_pow_right (by omega) (by omega)
          have h127 : b.toNat % 128 * 128 ^ i ≤ 127 * 128 ^ i := Nat.mul_le_mul_right _ (by omega)
          have := hacc2 hi9
          rw [hsum (by omega), Nat.pow_succ]
          omega
        · rw [hdec, show 10 - (i + 1) = 9 - i by omega, show off + (i + 1) = off + i + 1 by omega]
          rcases Nat.lt_or_ge i 9 with h9 | h9
          · have h8 : (128 : Nat) ^ i ≤ 128 ^ 8 := Nat.pow_le_pow_right (by omega) (by omega)
            have h127 : b.toNat % 128 * 128 ^ i ≤ 127 * 128 ^ i := Nat.mul_le_mul_right _ (by omega)
            rw [hsum (by omega)]
            cases hdd : decG (9 - i) (List.drop (off + i + 1) data) with
            | none => rfl
            | some p =>
              simp only [Option.map_some, Option.some.injEq, Prod.mk.injEq, and_true]
              have : b.toNat - 128 = b.toNat % 128 := by omega
              rw [this, Nat.add_mul, Nat.mul_assoc, Nat.pow_succ, Nat.mul_comm 128 (128 ^ i)]
              omega
          · have : 9 - i = 0 := by omega
            rw [this]
            rfl
      · replace hb := of_decide_eq_false hb
        have hbm : b.toNat % 128 = b.toNat := by omega
        rw [if_neg (by omega)] at hdec
        by_cases herr : (9 - i < 9 ∧ b.toNat = 0) ∨ (9 - i = 0 ∧ 1 < b.toNat)
        · rw [if_pos herr] at hdec
          have fin : ∃ off', off' ≤ data.length ∧ IsR g data off' last e [.blk g 70 [.slice (some ⟨g2, 0, .none⟩) k cap, .int .i64 ((off + i + 1 : Nat) : Int), .int .i64 last, .int .i64 e], .row (some ⟨g2, 0, .none⟩) k cap 5 1 xs (0, 0)] ∧
              ((∃ n r, dec (data.drop off) = some (n, r) ∧ Value.tuple ⟨[.int .u64 0, .int .i64 3]⟩ = .tuple ⟨[.int .u64 n, .int .i64 0]⟩ ∧ off' = off + usize n) ∨ (dec (data.drop off) = .none ∧ Value.tuple ⟨[.int .u64 0, .int .i64 3]⟩ = .tuple ⟨[.int .u64 0, .int .i64 3]⟩)) :=
            ⟨off + i + 1, by omega, ⟨_, k, cap, xs, rfl, hk, hx, hg⟩, .inr ⟨hdec, rfl⟩⟩
          by_cases hi0 : 0 < i
          · by_cases hb0 : b.toNat = 0
            · repeat (focus (refine ⟨fun h => ?_, fun h => ?_⟩; first | (focus (exfalso; first | (simp at h; done) | exact absurd (of_decide_eq_true h) (by assumption) | exact absurd (by assumption) (of_decide_eq_false h))) | (rotate_left; focus (exfalso; first | (simp at h; done) | exact absurd (of_decide_eq_true h) (by assumption) | exact absurd (by assumption) (of_decide_eq_false h))) | (focus (exfalso; simp at h; omega)) | (rotate_left; focus (exfalso; simp at h; omega)); clear h))
              exact ⟨_, Ent.refl _, fin⟩
            · have : i = 9 := by omega
              repeat (focus (refine ⟨fun h => ?_, fun h => ?_⟩; first | (focus (exfalso; first | (simp at h; done) | exact absurd (of_decide_eq_true h) (by assumption) | exact absurd (by assumption) (of_decide_eq_false h))) | (rotate_left; focus (exfalso; first | (simp at h; done) | exact absurd (of_decide_eq_true h) (by assumption) | exact absurd (by assumption) (of_decide_eq_false h))) | (focus (exfalso; simp at h; omega)) | (rotate_left; focus (exfalso; simp at h; omega)); clear h))
              exact ⟨_, Ent.refl _, fin⟩
          · omega
        · rw [if_neg herr] at hdec
          have hlt2 : b.toNat * 128 ^ i < 18446744073709551616 := by
            rcases Nat.lt_or_ge i 9 with h9 | h9
            · have h8 : (128 : Nat) ^ i ≤ 128 ^ 8 := Nat.pow_le_pow_right (by omega) (by omega)
              have h127 : b.toNat * 128 ^ i ≤ 127 * 128 ^ i := Nat.mul_le_mul_right _ (by omega)
              omega
            · have h1 : b.toNat ≤ 1 := by omega
              have h127 : b.toNat * 128 ^ i ≤ 1 * 128 ^ i := Nat.mul_le_mul_right _ h1
              omega
          rw [hbm] at hsum
          have hv := hsum hlt2
          simp only [Option.map_some] at hdec
          rw [← hv] at hdec
          have hus : off + i + 1 = off + usize (acc ||| m) := by
            have := (dec_iff.1 hdec).1
            have := congrArg List.length this
            simp only [List.length_drop, List.length_append, length_num] at this
            omega
          have fin : ∃ off', off' ≤ data.length ∧ IsR g data off' last e [.blk g 70 [.slice (some ⟨g2, 0, .none⟩) k cap, .int .i64 ((off + i + 1 : Nat) : Int), .int .i64 last, .int .i64 e], .row (some ⟨g2, 0, .none⟩) k cap 5 1 xs (0, 0)] ∧
              ((∃ n r, dec (data.drop off) = some (n, r) ∧ Value.tuple ⟨[.int .u64 ((acc ||| m : Nat) : Int), .int .i64 0]⟩ = .tuple ⟨[.int .u64 n, .int .i64 0]⟩ ∧ off' = off + usize n) ∨ (dec (data.drop off) = .none ∧ Value.tuple ⟨[.int .u64 ((acc ||| m : Nat) : Int), .int .i64 0]⟩ = .tuple ⟨[.int .u64 0, .int .i64 3]⟩)) :=
            ⟨off + i + 1, by omega, ⟨_, k, cap, xs, rfl, hk, hx, hg⟩, .inl ⟨_, _, hdec, rfl, hus⟩⟩
          by_cases hi0 : 0 < i
          · have hb0 : ¬ b.toNat = 0 := by omega
            by_cases hi99 : i = 9
            · have h1b : ¬ 1 < b.toNat := by omega
              repeat (focus (refine ⟨fun h => ?_, fun h => ?_⟩; first | (focus (exfalso; first | (simp at h; done) | exact absurd (of_decide_eq_true h) (by assumption) | exact absurd (by assumption) (of_decide_eq_false h))) | (rotate_left; focus (exfalso; first | (simp at h; done) | exact absurd (of_decide_eq_true h) (by assumption) | exact absurd (by assumption) (of_decide_eq_false h))) | (focus (exfalso; simp at h; omega)) | (rotate_left; focus (exfalso; simp at h; omega)); clear h))
              exact ⟨_, Ent.refl _, fin⟩
            · repeat (focus (refine ⟨fun h => ?_, fun h => ?_⟩; first | (focus (exfalso; first | (simp at h; done) | exact absurd (of_decide_eq_true h) (by assumption) | exact absurd (by assumption) (of_decide_eq_false h))) | (rotate_left; focus (exfalso; first | (simp at h; done) | exact absurd (of_decide_eq_true h) (by assumption) | exact absurd (by assumption) (of_decide_eq_false h))) | (focus (exfalso; simp at h; omega)) | (rotate_left; focus (exfalso; simp at h; omega)); clear h))
              exact ⟨_, Ent.refl _, fin⟩
          · repeat (focus (refine ⟨fun h => ?_, fun h => ?_⟩; first | (focus (exfalso; first | (simp at h; done) | exact absurd (of_decide_eq_true h) (by assumption) | exact absurd (by assumption) (of_decide_eq_false h))) | (rotate_left; focus (exfalso; first | (simp at h; done) | exact absurd (of_decide_eq_true h) (by assumption) | exact absurd (by assumption) (of_decide_eq_false h))) | (focus (exfalso; simp at h; omega)) | (rotate_left; focus (exfalso; simp at h; omega)); clear h))
            exact ⟨_, Ent.refl _, fin⟩
  · replace hb := of_decide_eq_false hb
    have h10 : i = 10 := by omega
    subst h10
    exact ⟨_, Ent.refl _, off + 10, hoi, ⟨A, k, cap, xs, rfl, hk, hx, hg⟩, .inr ⟨hdec, rfl⟩⟩

end Go.Proofs.Ytknilabilihlnaa
