/-
  Contracts of the methods of wire.Writer.
-/
import Derived.Test.YtbgfnofjnbpdgaaDoorWra
namespace Go.Proofs.YtbgfnofjnbpdgaaDoor
open Go Go.RowKit

/-- A writer at block g: its bytes and its error. -/
def IsW (g : Nat) (bs : List UInt8) (e : Int) (h : Hp) : Prop :=
  ∃ A k cap xs, h = [.blk g 138 [.slice A k cap, .int .i64 e], .row A k cap 5 1 xs (0, 0)] ∧ k = bs.length ∧ xs = BV bs ∧ grow k A

theorem NewWriter_ok (R : Rd) : Fn Tryd.prog 63 [] [] R (fun v h => ∃ g, v = .pointer (some ⟨g, 0, .none⟩) ∧ IsW g [] 0 h) := by
  refine fn_of_vc mixed tabOk Tryd.func63 rfl (by kernel_rfl) (Nat.le_of_ble_eq_true rfl) ?_
  intro g
  exact ⟨_, Ent.nilrow _ 5 1, g, rfl, .none, 0, 0, [], rfl, rfl, rfl, .inl rfl⟩

theorem WUint_ok (R : Rd) (g : Nat) (bs : List UInt8) (e : Int) (h : Hp) (n : Nat) (h2 : n ≤ 18446744073709551615) (hb : bs.length ≤ 140737488000000) (hw : IsW g bs e h) :
    Fn Tryd.prog 84 [.pointer (some ⟨g, 0, .none⟩), .int .u64 n] h R (fun _ h' => IsW g (if e = 0 then bs ++ num n else bs) e h') := by
  obtain ⟨A, k, cap, xs, rfl, hk, hx, hg⟩ := hw
  refine fn_of_vc mixed tabOk Tryd.func84 rfl (by kernel_rfl) (Nat.le_of_ble_eq_true rfl) ?_
  refine ⟨_, ld 0 rfl rfl, ?_⟩
  refine ⟨fun hb => ?_, fun hb => ?_⟩
  · replace hb := of_decide_eq_true hb
    subst hb
    refine ⟨_, ld 0 rfl rfl, ?_⟩
    refine ⟨[1], _, extend_ok _ _ bs _ n h2 (by assumption) ⟨A, k, cap, xs, rfl, rfl, hk, hx, hg⟩, ?_⟩
    rintro v' h' ⟨A', k', cap', xs', rfl, rfl, hk', hx', hg'⟩
    refine ⟨rfl, rfl, 0, rfl, rfl, Nat.le_of_ble_eq_true rfl, ?_⟩
    exact ⟨_, Ent.refl _, A', k', cap', xs', rfl, hk', hx', hg'⟩
  · replace hb := of_decide_eq_false hb
    rw [if_neg hb]
    exact ⟨_, Ent.refl _, A, k, cap, xs, rfl, hk, hx, hg⟩

theorem WCount_ok (R : Rd) (g : Nat) (bs : List UInt8) (e : Int) (h : Hp) (n : Int) (h2 : n ≤ 9223372036854775807) (hb : bs.length ≤ 140737488000000) (hw : IsW g bs e h) :
    Fn Tryd.prog 64 [.pointer (some ⟨g, 0, .none⟩), .int .i64 n] h R (fun _ h' => IsW g (if e = 0 ∧ 0 ≤ n then bs ++ num n.toNat else bs) (if e = 0 ∧ n < 0 then 1 else e) h') := by
  obtain ⟨A, k, cap, xs, rfl, hk, hx, hg⟩ := hw
  refine fn_of_vc mixed tabOk Tryd.func64 rfl (by kernel_rfl) (Nat.le_of_ble_eq_true rfl) ?_
  refine ⟨_, ld 0 rfl rfl, ?_⟩
  refine ⟨fun hb => ?_, fun hb => ?_⟩
  · have he : ¬ e = 0 := by simpa using hb
    rw [if_neg (fun h => he h.1), if_neg (fun h => he h.1)]
    exact ⟨_, Ent.refl _, A, k, cap, xs, rfl, hk, hx, hg⟩
  · have he : e = 0 := by simpa using hb
    subst he; clear hb
    refine ⟨fun hb => ?_, fun hb => ?_⟩
    · replace hb := of_decide_eq_true hb
      refine ⟨rfl, rfl, 0, rfl, rfl, Nat.le_of_ble_eq_true rfl, ?_⟩
      rw [if_neg (by omega), if_pos ⟨rfl, hb⟩]
      exact ⟨_, Ent.refl _, A, k, cap, xs, rfl, hk, hx, hg⟩
    · replace hb := of_decide_eq_false hb
      obtain ⟨m, rfl⟩ := Int.eq_ofNat_of_zero_le (Int.not_lt.1 hb)
      (intro z hz; obtain rfl := wr_u64 hz (by omega) (by omega); clear hz)
      refine ⟨[0, 0], _, WUint_ok _ g bs 0 _ m (by omega) (by assumption) ⟨A, k, cap, xs, rfl, hk, hx, hg⟩, ?_⟩
      rintro v' h' hw'
      rw [if_pos ⟨rfl, by omega⟩, if_neg (by omega)]
      rw [if_pos rfl] at hw'
      exact ⟨_, Ent.refl _, hw'⟩

theorem WText_ok (R : Rd) (g : Nat) (bs : List UInt8) (e : Int) (h : Hp) (b : List UInt8) (hb : bs.length + b.length ≤ 140737488000000) (hw : IsW g bs e h) :
    Fn Tryd.prog 86 [.pointer (some ⟨g, 0, .none⟩), .string ⟨⟨b⟩⟩] h R (fun _ h' => IsW g (if e = 0 then bs ++ num b.length ++ b else bs) e h') := by
  obtain ⟨A, k, cap, xs, rfl, hk, hx, hg⟩ := hw
  have hML := maxLen_eq
  refine fn_of_vc mixed tabOk Tryd.func86 rfl (by kernel_rfl) (Nat.le_of_ble_eq_true rfl) ?_
  refine ⟨_, ld 0 rfl rfl, ?_⟩
  refine ⟨fun he => ?_, fun he => ?_⟩
  · replace he := of_decide_eq_true he
    subst he
    have h10 := usize_le10 (n := b.length) (by omega)
    refine ⟨_, ld 0 rfl rfl, ?_⟩
    intro z hz; obtain rfl : z = (b.length : Int) := wr_u64 hz (show (0 : Int) ≤ (b.length : Int) by omega) (show (b.length : Int) ≤ _ by omega)
    clear hz
    refine ⟨[1], _, extend_ok _ _ bs _ b.length (by omega) (by omega) ⟨A, k, cap, xs, rfl, rfl, hk, hx, hg⟩, ?_⟩
    rintro v' h' ⟨A', k', cap', xs', rfl, rfl, hk', hx', hg'⟩
    rw [List.length_append, length_num] at hk'
    refine ⟨rfl, BV_one b, by show (_ + b.length) * 1 ≤ _; omega, by show _ + b.length ≤ _; omega, .inr ⟨1, rfl, rfl, rfl, rfl, rfl, rfl, fun A'' cap'' hg'' => ?_⟩⟩
    refine ⟨rfl, rfl, 0, rfl, rfl, Nat.le_of_ble_eq_true rfl, ?_⟩
    exact ⟨_, Ent.refl _, A'', _, cap'', _, rfl, by rw [if_pos rfl, List.length_append, List.length_append, length_num, hk'], by rw [if_pos rfl, BV_append, hx']; rfl, hg''⟩
  · replace he := of_decide_eq_false he
    rw [if_neg he]
    exact ⟨_, Ent.refl _, A, k, cap, xs, rfl, hk, hx, hg⟩

theorem WSum_ok (R : Rd) (g : Nat) (bs : List UInt8) (e : Int) (h : Hp) (b : List UInt8) (hb : bs.length + b.length ≤ 140737488000000) (hw : IsW g bs e h) :
    Fn Tryd.prog 85 [.pointer (some ⟨g, 0, .none⟩), .string ⟨⟨b⟩⟩] h R (fun _ h' => IsW g (if e = 0 ∧ b.length = 32 then bs ++ b else bs) (if e = 0 ∧ b.length ≠ 32 then 1 else e) h') := by
  obtain ⟨A, k, cap, xs, rfl, hk, hx, hg⟩ := hw
  have hML := maxLen_eq
  refine fn_of_vc mixed tabOk Tryd.func85 rfl (by kernel_rfl) (Nat.le_of_ble_eq_true rfl) ?_
  refine ⟨_, ld 0 rfl rfl, ?_⟩
  refine ⟨fun he => ?_, fun he => ?_⟩
  · have he : ¬ e = 0 := by simpa using he
    rw [if_neg (fun h => he h.1), if_neg (fun h => he h.1)]
    exact ⟨_, Ent.refl _, A, k, cap, xs, rfl, hk, hx, hg⟩
  · have he : e = 0 := by simpa using he
    subst he
    refine ⟨fun hl => ?_, fun hl => ?_⟩
    · have hl : ¬ b.length = 32 := fun h => by simp [h] at hl
      refine ⟨rfl, rfl, 0, rfl, rfl, Nat.le_of_ble_eq_true rfl, ?_⟩
      rw [if_neg (fun h => hl h.2), if_pos ⟨rfl, hl⟩]
      exact ⟨_, Ent.refl _, A, k, cap, xs, rfl, hk, hx, hg⟩
    · have hl : b.length = 32 := by
        have h2 : (!decide ((b.length : Int) = 32)) = false := hl
        simp at h2; omega
      refine ⟨_, ld 0 rfl rfl, ?_⟩
      refine ⟨rfl, BV_one b, by show (_ + b.length) * 1 ≤ _; omega, by show _ + b.length ≤ _; omega, .inr ⟨1, rfl, rfl, rfl, rfl, rfl, rfl, fun A'' cap'' hg'' => ?_⟩⟩
      refine ⟨rfl, rfl, 0, rfl, rfl, Nat.le_of_ble_eq_true rfl, ?_⟩
      rw [if_pos ⟨rfl, hl⟩, if_neg (fun h => h.2 hl)]
      exact ⟨_, Ent.refl _, A'', k + b.length, cap'', xs ++ BV b, rfl, by rw [List.length_append, hk], by rw [BV_append, hx], hg''⟩

theorem WBool_ok (R : Rd) (g : Nat) (bs : List UInt8) (e : Int) (h : Hp) (b : Bool) (hb : bs.length ≤ 140737488000000) (hw : IsW g bs e h) :
    Fn Tryd.prog 66 [.pointer (some ⟨g, 0, .none⟩), .bool b] h R (fun _ h' => IsW g (if e = 0 then bs ++ [if b then 1 else 0] else bs) e h') := by
  obtain ⟨A, k, cap, xs, rfl, hk, hx, hg⟩ := hw
  refine fn_of_vc mixed tabOk Tryd.func66 rfl (by kernel_rfl) (Nat.le_of_ble_eq_true rfl) ?_
  refine ⟨fun he => ?_, fun he => ?_⟩
  · subst he
    refine ⟨[0, 0], _, WUint_ok _ g bs e _ 1 (by omega) hb ⟨A, k, cap, xs, rfl, hk, hx, hg⟩, ?_⟩
    rintro v' h' hw'
    exact ⟨_, Ent.refl _, by rw [num_small (by omega)] at hw'; exact hw'⟩
  · subst he
    refine ⟨[0, 0], _, WUint_ok _ g bs e _ 0 (by omega) hb ⟨A, k, cap, xs, rfl, hk, hx, hg⟩, ?_⟩
    rintro v' h' hw'
    exact ⟨_, Ent.refl _, by rw [num_small (by omega)] at hw'; exact hw'⟩

/-- What Done returns. -/
def doneB (bs : List UInt8) (e : Int) : List UInt8 := if e = 0 ∧ bs.length ≤ 1048576 then bs else []
def doneE (bs : List UInt8) (e : Int) : Int := if e = 0 then (if bs.length ≤ 1048576 then 0 else 2) else e

theorem WDone_ok (R : Rd) (g : Nat) (bs : List UInt8) (e : Int) (h : Hp) (hw : IsW g bs e h) :
    Fn Tryd.prog 67 [.pointer (some ⟨g, 0, .none⟩)] h R (fun v h' => ∃ s hw' hs, v = .tuple ⟨[s, .int .i64 (doneE bs e)]⟩ ∧ h' = hw' ++ hs ∧ IsW g bs e hw' ∧ OwnB s (doneB bs e) hs) := by
  obtain ⟨A, k, cap, xs, rfl, hk, hx, hg⟩ := hw
  have hML := maxLen_eq
  refine fn_of_vc mixed tabOk Tryd.func67 rfl (by kernel_rfl) (Nat.le_of_ble_eq_true rfl) ?_
  refine ⟨_, ld 0 rfl rfl, ?_⟩
  refine ⟨fun he => ?_, fun he => ?_⟩
  · have he : ¬ e = 0 := by simpa using he
    refine ⟨[0], lexT 0 6, by kernel_rfl, ?_⟩
    refine ⟨_, .inr ⟨_, List.mem_of_getElem? (i := 0) rfl, rfl, rfl, rfl⟩, ?_⟩
    refine ⟨_, (Ent.nilrow _ 5 1), .slice .none 0 0, _, _, ?_, rfl, ⟨A, k, cap, xs, rfl, hk, hx, hg⟩, .none, 0, 0, [], rfl, rfl, ?_, ?_, .inl rfl⟩
    · show Value.tuple _ = _
      rw [doneE, if_neg he]
    · rw [doneB, if_neg (fun h => he h.1)]; rfl
    · rw [doneB, if_neg (fun h => he h.1)]; rfl
  · have he : e = 0 := by simpa using he
    subst he
    refine ⟨_, ld 0 rfl rfl, ?_⟩
    refine ⟨fun hb => ?_, fun hb => ?_⟩
    · replace hb := of_decide_eq_true hb
      refine ⟨_, (Ent.nilrow _ 5 1), .slice .none 0 0, _, _, ?_, rfl, ⟨A, k, cap, xs, rfl, hk, hx, hg⟩, .none, 0, 0, [], rfl, rfl, ?_, ?_, .inl rfl⟩
      · show Value.tuple _ = _
        rw [doneE, if_pos rfl, if_neg (by omega)]
      · rw [doneB, if_neg (by omega)]; rfl
      · rw [doneB, if_neg (by omega)]; rfl
    · replace hb := of_decide_eq_false hb
      refine ⟨rfl, fun g2 => ?_⟩
      refine ⟨_, ld 0 rfl rfl, ?_⟩
      have hsl := SlR.own (R := R) (h := [.blk g 138 [.slice A k cap, .int .i64 0], .row A k cap 5 1 xs (0, 0), .row (some ⟨g2, 0, .none⟩) 0 0 5 1 [] (0, 0)]) 1 rfl (by rw [hx, BV_length, hk, Nat.mul_one]) hg
      obtain ⟨hl, _, _, he, hsrc⟩ := hsl
      cases he
      refine ⟨xs, hl, hsrc, by rw [hx]; exact BV_one _, by show (0 + k) * 1 ≤ _; omega, by omega, .inr ⟨2, rfl, rfl, rfl, rfl, rfl, rfl, fun A' cap' hg' => ?_⟩⟩
      refine ⟨_, Ent.refl _, .slice A' (0 + k) cap', [_, _], [_], ?_, rfl, ⟨A, k, cap, xs, rfl, hk, hx, hg⟩, A', _, cap', _, rfl, rfl, ?_, ?_, hg'⟩
      · show Value.tuple _ = _
        rw [doneE, if_pos rfl, if_pos (by omega)]
      · rw [doneB, if_pos ⟨rfl, by omega⟩]; omega
      · rw [doneB, if_pos ⟨rfl, by omega⟩, hx]; rfl

end Go.Proofs.YtbgfnofjnbpdgaaDoor
