/-
  Contracts of wire.Reader: a limited number, the next bytes, a block.
-/
import Derived.Test.YtknilabilihlnaaWrd
namespace Go.Proofs.Ytknilabilihlnaa
open Go Go.RowKit

/-- A number of at most 'most': the error, the number, what is left. -/
def limD (most : Int) (l : List UInt8) : Int × Nat × List UInt8 :=
  match dec l with
  | .none => (3, 0, [])
  | some (n, r) => if max most 0 < (n : Int) then (2, 0, []) else (0, n, r)

theorem dec_len {l : List UInt8} {n : Nat} {r : List UInt8} (h : dec l = some (n, r)) : l.length = usize n + r.length := by
  have := congrArg List.length (dec_iff.1 h).1
  simp only [List.length_append, length_num] at this
  exact this

theorem limited_ok (R : Rd) (g : Nat) (data : List UInt8) (off last : Nat) (e : Int) (h : Hp) (most : Int) (hm1 : most ≤ 9223372036854775807) (ho : off ≤ data.length) (hd : data.length ≤ 9000000000000000000) (hr : IsR g data off last e h) :
    Fn Try.prog 60 [.pointer (some ⟨g, 0, .none⟩), .int .i64 most] h R (fun v h' => ∃ off', off' ≤ data.length ∧ IsR g data off' last e h' ∧
      v = .tuple ⟨[.int .i64 (limD most (data.drop off)).2.1, .int .i64 (limD most (data.drop off)).1]⟩ ∧ ((limD most (data.drop off)).1 = 0 → off' + (limD most (data.drop off)).2.2.length = data.length)) := by
  obtain ⟨A, k, cap, xs, rfl, hk, hx, hg⟩ := hr
  refine fn_of_vc mixed tabOk Try.func60 rfl (by kernel_rfl) (Nat.le_of_ble_eq_true rfl) ?_
  refine ⟨[0, 0], _, number_ok _ g data off last e _ ho hd ⟨A, k, cap, xs, rfl, hk, hx, hg⟩, ?_⟩
  rintro v h' ⟨off', hle, ⟨A', k', cap', xs', rfl, hk', hx', hg'⟩, hcase⟩
  rcases hcase with ⟨n, r, hdec, rfl, hoff⟩ | ⟨hdec, rfl⟩
  · have hn := (dec_iff.1 hdec).2
    have hln := dec_len hdec
    rw [List.length_drop] at hln
    refine ⟨fun hb => absurd hb (by simp), fun hb => ?_⟩
    intro z hz; subst hz
    intro z hz; obtain rfl := wr_u64 hz (by omega) (by omega); clear hz
    refine ⟨fun hb => ?_, fun hb => ?_⟩
    · replace hb := of_decide_eq_true hb
      refine ⟨_, Ent.refl _, off', hle, ⟨A', k', cap', xs', rfl, hk', hx', hg'⟩, ?_, ?_⟩
      · rw [limD, hdec]
        simp only [if_pos hb]
        rfl
      · rw [limD, hdec]
        simp only [if_pos hb]
        omega
    · replace hb := of_decide_eq_false hb
      have : max most 0 ≤ 9223372036854775807 := by omega
      (intro z hz; obtain rfl := wr_i64 hz (by omega) (by omega); clear hz)
      refine ⟨_, Ent.refl _, off', hle, ⟨A', k', cap', xs', rfl, hk', hx', hg'⟩, ?_, ?_⟩
      · rw [limD, hdec]
        simp only [if_neg hb]
        rfl
      · rw [limD, hdec]
        simp only [if_neg hb]
        intro _
        omega
  · refine ⟨fun hb => ?_, fun hb => absurd hb (by simp)⟩
    refine ⟨_, Ent.refl _, off', hle, ⟨A', k', cap', xs', rfl, hk', hx', hg'⟩, ?_, ?_⟩
    · rw [limD, hdec]; rfl
    · rw [limD, hdec]; simp

/-- A reader, its memory spelled out. -/
def rdH (g : Nat) (A : Option Addr) (k cap : Nat) (xs : List Value) (off last : Nat) (e : Int) : Hp :=
  [.blk g 70 [.slice A k cap, .int .i64 off, .int .i64 last, .int .i64 e], .row A k cap 5 1 xs (0, 0)]

theorem take_ok (R : Rd) (g : Nat) (data : List UInt8) (A : Option Addr) (k cap : Nat) (xs : List Value) (off last : Nat) (e : Int) (hk : k = data.length) (n : Nat) (hn : n ≤ 9223372036854775807) (ho : off ≤ data.length) (hd : data.length ≤ 9000000000000000000) :
    Fn Try.prog 61 [.pointer (some ⟨g, 0, .none⟩), .int .i64 n] (rdH g A k cap xs off last e) R (fun v h' =>
      (data.length - off < n ∧ v = .tuple ⟨[.slice .none 0 0, .int .i64 3]⟩ ∧ h' = rdH g A k cap xs off last e) ∨
      (n ≤ data.length - off ∧ k ≤ cap ∧ v = .tuple ⟨[.slice (sliceBase A cap off 1) n (cap - off), .int .i64 0]⟩ ∧ h' = rdH g A k cap xs (off + n) last e)) := by
  refine fn_pure (callable Try.func61 rfl (by kernel_rfl)) (p := k ≤ cap) (fun w o => (row_cap o 1 rfl).1) fun hcap => ?_
  refine fn_of_vc mixed tabOk Try.func61 rfl (by kernel_rfl) (Nat.le_of_ble_eq_true rfl) ?_
  refine ⟨[0], lexT 0 12, by kernel_rfl, ?_⟩
  refine ⟨_, ld 0 rfl rfl, ?_⟩
  refine ⟨_, ld 0 rfl rfl, ?_⟩
  (intro z hz; obtain rfl := wr_i64 hz (by omega) (by omega); clear hz)
  refine ⟨fun hb => ?_, fun hb => ?_⟩
  · replace hb := of_decide_eq_true hb
    exact ⟨_, Ent.refl _, .inl ⟨by omega, rfl, rfl⟩⟩
  · replace hb := of_decide_eq_false hb
    refine ⟨[0], lexT 0 16, by kernel_rfl, ?_⟩
    refine ⟨_, ld 0 rfl rfl, ?_⟩
    refine ⟨_, ld 0 rfl rfl, ?_⟩
    refine ⟨_, ld 0 rfl rfl, ?_⟩
    (intro z hz; obtain rfl := wr_i64 hz (by omega) (by omega); clear hz)
    refine ⟨off, off + n, rfl, rfl, by omega, by omega, ?_⟩
    refine ⟨_, ld 0 rfl rfl, ?_⟩
    (intro z hz; obtain rfl := wr_i64 hz (by omega) (by omega); clear hz)
    refine ⟨rfl, rfl, 0, rfl, rfl, Nat.le_of_ble_eq_true rfl, ?_⟩
    refine ⟨_, Ent.refl _, .inr ⟨by omega, hcap, ?_, rfl⟩⟩
    show Value.tuple ⟨[.slice _ (off + n - off) _, _]⟩ = _
    rw [Nat.add_sub_cancel_left]
    rfl

/-- The bytes of a block of at most 'most': the error, the bytes, what is left. -/
def blkD (most : Int) (l : List UInt8) : Int × List UInt8 × List UInt8 :=
  if (limD most l).1 = 0 then
    if (limD most l).2.2.length < (limD most l).2.1 then (3, [], [])
    else (0, (limD most l).2.2.take (limD most l).2.1, (limD most l).2.2.drop (limD most l).2.1)
  else ((limD most l).1, [], [])

theorem limD_le {most : Int} {l : List UInt8} (h : most ≤ 9223372036854775807) : ((limD most l).2.1 : Int) ≤ 9223372036854775807 := by
  unfold limD
  split
  · simp
  · split
    · simp
    · show (_ : Int) ≤ _
      simp only
      omega

theorem limD_drop {most : Int} {l : List UInt8} (h : (limD most l).1 = 0) : ∃ o, (limD most l).2.2 = l.drop o ∧ o ≤ l.length := by
  unfold limD at h ⊢
  cases hd : dec l with
  | none => rw [hd] at h; simp at h
  | some p =>
    obtain ⟨n, r⟩ := p
    rw [hd] at h
    simp only at h ⊢
    have := (dec_iff.1 hd).1
    split
    · rename_i hh; rw [if_pos hh] at h; simp at h
    · refine ⟨usize n, ?_, ?_⟩
      · simp only
        rw [this, ← length_num, List.drop_left]
      · have := dec_len hd; omega

theorem block_ok (R : Rd) (g : Nat) (data : List UInt8) (off last : Nat) (e : Int) (h : Hp) (most : Int) (hm1 : most ≤ 9223372036854775807) (ho : off ≤ data.length) (hd : data.length ≤ 9000000000000000000) (hr : IsR g data off last e h) :
    Fn Try.prog 46 [.pointer (some ⟨g, 0, .none⟩), .int .i64 most] h R (fun v h' => ∃ A k cap xs off' s, h' = rdH g A k cap xs off' last e ∧ k = data.length ∧ xs = BV data ∧ grow k A ∧ off' ≤ data.length ∧
      v = .tuple ⟨[s, .int .i64 (blkD most (data.drop off)).1]⟩ ∧ (((blkD most (data.drop off)).1 ≠ 0 ∧ s = .slice .none 0 0) ∨ ((blkD most (data.drop off)).1 = 0 ∧ off' + (blkD most (data.drop off)).2.2.length = data.length ∧
        ∃ o n, s = .slice (sliceBase A cap o 1) n (cap - o) ∧ o + n ≤ k ∧ k ≤ cap ∧ (blkD most (data.drop off)).2.1 = (data.drop o).take n))) := by
  obtain ⟨A, k, cap, xs, rfl, hk, hx, hg⟩ := hr
  refine fn_of_vc mixed tabOk Try.func46 rfl (by kernel_rfl) (Nat.le_of_ble_eq_true rfl) ?_
  refine ⟨[0, 0], _, limited_ok _ g data off last e _ most hm1 ho hd ⟨A, k, cap, xs, rfl, hk, hx, hg⟩, ?_⟩
  rintro v h' ⟨off', hle, ⟨A', k', cap', xs', rfl, hk', hx', hg'⟩, rfl, hoff⟩
  refine ⟨fun hb => ?_, fun hb => ?_⟩
  · have hb : ¬ (limD most (data.drop off)).1 = 0 := by simpa using hb
    refine ⟨_, Ent.refl _, A', k', cap', xs', off', _, rfl, hk', hx', hg', hle, ?_, .inl ⟨?_, rfl⟩⟩
    · rw [blkD, if_neg hb]; rfl
    · rw [blkD, if_neg hb]; exact hb
  · have hb : (limD most (data.drop off)).1 = 0 := by simpa using hb
    have hlim := limD_le (most := most) (l := data.drop off) hm1
    have hoff := hoff hb
    obtain ⟨q, hq, hql⟩ := limD_drop hb
    refine ⟨[0, 0], _, take_ok _ g data A' k' cap' xs' off' last e hk' (limD most (data.drop off)).2.1 (by omega) hle hd, ?_⟩
    have hrl : (limD most (data.drop off)).2.2.length = data.length - off' := by omega
    have hre : (limD most (data.drop off)).2.2 = data.drop off' := by
      rw [hq, List.drop_drop]
      rw [hq, List.drop_drop, List.length_drop] at hrl
      rw [List.length_drop] at hql
      congr 1; omega
    rintro v h' (⟨hlt, rfl, rfl⟩ | ⟨hge, hcap, rfl, rfl⟩)
    · refine ⟨_, Ent.refl _, A', k', cap', xs', off', _, rfl, hk', hx', hg', hle, ?_, .inl ⟨?_, rfl⟩⟩
      · rw [blkD, if_pos hb, if_pos (by omega)]; rfl
      · rw [blkD, if_pos hb, if_pos (by omega)]; simp
    · refine ⟨_, Ent.refl _, A', k', cap', xs', off' + (limD most (data.drop off)).2.1, _, rfl, hk', hx', hg', by omega, ?_, .inr ⟨?_, ?_, off', (limD most (data.drop off)).2.1, rfl, by omega, hcap, ?_⟩⟩
      · rw [blkD, if_pos hb, if_neg (by omega)]; rfl
      · rw [blkD, if_pos hb, if_neg (by omega)]
      · rw [blkD, if_pos hb, if_neg (by omega)]
        simp only [List.length_drop]
        omega
      · rw [blkD, if_pos hb, if_neg (by omega)]
        simp only
        rw [hre]

end Go.Proofs.Ytknilabilihlnaa
