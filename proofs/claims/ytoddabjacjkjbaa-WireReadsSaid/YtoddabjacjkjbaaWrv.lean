/-
  The reference's reader: Read and End.
-/
import Derived.Test.YtoddabjacjkjbaaWru
namespace Go.Proofs.Ytoddabjacjkjbaa
open Go Go.RowKit
set_option linter.unusedVariables false
set_option linter.unusedSimpArgs false

theorem Ent.pick (is : List Nat) {h hs : Hp} (hp : pickK is h fun a _ => a = hs) : Ent h hs := by
  obtain ⟨a, rest, perm, e⟩ := pickK_sound _ _ _ hp
  subst e
  exact (Ent.perm perm).trans (Ent.drop a rest)
def rrC (A : Option Addr) (n cap : Nat) (off lr : Nat) (e : Int) : List Value := [.slice A n cap, .int .i64 off, .int .i64 lr, .int .i64 e]
theorem getN_err {data : List UInt8} {off last : Nat} {e k most : Int} (he : e ≠ 0) : getN data (off, last, e) k most = (off, last, e) := by
  unfold getN nxt
  simp [he]
theorem rd1_err {k most : Int} {l : List UInt8} (h : (rd1 k most l).1 ≠ 0) : (rd1 k most l).2.1 = zeroI k most := by
  have hu : (uintD l).1 ≠ 0 → (uintD l).2.1 = 0 := fun h => by
    unfold uintD at h ⊢
    cases hd : dec l with
    | none => rfl
    | some p => rw [hd] at h; exact absurd rfl h
  have hm : (limD most l).1 ≠ 0 → (limD most l).2.1 = 0 := fun h => by
    unfold limD at h ⊢
    cases hd : dec l with
    | none => rfl
    | some p =>
      obtain ⟨n, r⟩ := p
      rw [hd] at h
      by_cases c : max most 0 < (n : Int)
      · exact congrArg (fun y : Int × Nat × List UInt8 => y.2.1) (if_pos c)
      · exact absurd (congrArg Prod.fst (if_neg c : (if max most 0 < (n : Int) then ((2 : Int), 0, ([] : List UInt8)) else (0, n, r)) = _)) h
  have hb : (blkD most l).1 ≠ 0 → (blkD most l).2.1 = [] := fun h => by
    unfold blkD at h ⊢
    by_cases c : (limD most l).1 = 0
    · rw [if_pos c] at h ⊢
      by_cases c2 : (limD most l).2.2.length < (limD most l).2.1
      · rw [if_pos c2]
      · rw [if_neg c2] at h; exact absurd rfl h
    · rw [if_neg c]
  have hs : (sumD l).1 ≠ 0 → (sumD l).2.1 = [] := fun h => by
    unfold sumD at h ⊢
    by_cases c : l.length < 32
    · rw [if_pos c]
    · rw [if_neg c] at h; exact absurd rfl h
  have ho : (boolD l).1 ≠ 0 → (boolD l).2.1 = false := fun h => by
    cases l with
    | nil => rfl
    | cons b r =>
      by_cases c : 1 < b.toNat
      · exact congrArg (fun y : Int × Bool × List UInt8 => y.2.1) (show boolD (b :: r) = (3, false, []) from if_pos c)
      · exact absurd (congrArg Prod.fst (show boolD (b :: r) = (0, decide (b.toNat = 1), r) from if_neg c)) h
  unfold rd1 at h ⊢
  unfold zeroI
  split
  · rename_i c; rw [if_pos c] at h; exact congrArg (fun y => Item.mk k y 0 false [] most) (hu h)
  rename_i c1; rw [if_neg c1] at h
  split
  · rename_i c; rw [if_pos c] at h
    have := hu h
    show Item.mk k 0 (zag (uintD l).2.1) false [] most = _
    rw [this]; rfl
  rename_i c2; rw [if_neg c2] at h
  split
  · rename_i c; rw [if_pos c] at h; exact congrArg (fun y => Item.mk k 0 0 y [] most) (ho h)
  rename_i c3; rw [if_neg c3] at h
  split
  · rename_i c; rw [if_pos c] at h; exact congrArg (fun y => Item.mk k 0 0 false y most) (hb h)
  rename_i c4; rw [if_neg c4] at h
  split
  · rename_i c; rw [if_pos c] at h; exact congrArg (fun y => Item.mk k 0 0 false y most) (hs h)
  rename_i c5; rw [if_neg c5] at h
  split
  · rename_i c; rw [if_pos c] at h
    have := hm h
    show Item.mk k 0 ((limD most l).2.1 : Nat) false [] most = _
    rw [this]; rfl
  · rfl
theorem getN_zero {data : List UInt8} {off last : Nat} {most : Int} : getN data (off, last, 0) 0 most = (last, last, 3) := by
  unfold getN
  rw [if_pos rfl, if_pos rfl]
theorem getN_known {data : List UInt8} {off last : Nat} {k most : Int} (h : knownB k = true) : getN data (off, last, 0) k most =
    if (rd1 k most (data.drop off)).1 = 0 then (data.length - (rd1 k most (data.drop off)).2.2.length, off, 0) else (off, off, (rd1 k most (data.drop off)).1) := by
  have hk : 1 ≤ k ∧ k ≤ 7 := by simpa [knownB] using h
  unfold getN nxt
  rw [if_neg (by omega), if_pos h, if_pos rfl]
theorem getN_le {data : List UInt8} {st : Nat × Nat × Int} {k most : Int} (h1 : st.1 ≤ data.length) (h2 : st.2.1 ≤ data.length) : (getN data st k most).1 ≤ data.length ∧ (getN data st k most).2.1 ≤ data.length := by
  unfold getN nxt
  split
  · split
    · exact ⟨h2, h2⟩
    · exact ⟨h1, h2⟩
  · split
    · split
      · split
        · exact ⟨Nat.sub_le _ _, h1⟩
        · exact ⟨h1, h1⟩
      · exact ⟨h1, h2⟩
    · exact ⟨h1, h2⟩
def RdP (g : Nat) (A : Option Addr) (cap : Nat) (data : List UInt8) (off last : Nat) (e k most : Int) (v : Value) (h : Hp) : Prop :=
  v = .agg ⟨(getI k most e (data.drop off)).cells⟩ ∧ ∃ lr : Nat, h = [.blk g 30 (rrC A data.length cap (getN data (off, last, e) k most).1 lr (getN data (off, last, e) k most).2.2)] ∧ ((getN data (off, last, e) k most).2.2 = 0 → lr = (getN data (off, last, e) k most).2.1)

set_option maxRecDepth 100000 in
set_option maxHeartbeats 8000000 in
theorem RRead_ok (R : Rd) (g : Nat) (data : List UInt8) (off last lr : Nat) (e k most : Int) (A : Option Addr) (cap : Nat) (hk : k = 0 ∨ knownB k = true) (hl : e = 0 → lr = last) (hm : most ≤ 9223372036854775807) (ho : off ≤ data.length) (hd : data.length ≤ 1000000) (hc : data.length ≤ cap) (hs : BsR R (.slice A data.length cap) data) :
    Fn Try.prog 8 [.pointer (some ⟨g, 0, .none⟩), .int .i64 k, .int .i64 most] [.blk g 30 (rrC A data.length cap off lr e)] R (RdP g A cap data off last e k most) := by
  unfold RdP
  refine fn_of_vc mixed tabOk Try.func8 rfl (by kernel_rfl) (Nat.le_of_ble_eq_true rfl) ?_
  intro g6 g7
  refine ⟨rfl, rfl, 2, rfl, rfl, Nat.le_of_ble_eq_true rfl, ?_⟩
  refine ⟨_, ld 0 rfl rfl, ?_⟩
  by_cases he : e = 0
  case neg =>
    repeat (first | (refine ⟨fun h => ?_, fun h => ?_⟩; rotate_left 1; (focus (exfalso; (first | (with_reducible (cases h; done)) | (revert h; simp; done) | (revert h; simp; omega) | (revert h; simp [*]; done)))); clear h) | (refine ⟨fun h => ?_, fun h => ?_⟩; (focus (exfalso; (first | (with_reducible (cases h; done)) | (revert h; simp; done) | (revert h; simp; omega) | (revert h; simp [*]; done)))); clear h))
    refine ⟨_, rdBlk 2 rfl, rfl, ?_⟩
    refine ⟨rfl, rfl, 1, rfl, rfl, Nat.le_of_ble_eq_true rfl, ?_⟩
    refine ⟨_, rdBlk 1 rfl, rfl, ?_⟩
    refine ⟨_, Ent.drop [_] [_, _], ?_, lr, ?_, ?_⟩
    · rw [getI_no _ he] <;> rfl
    · rw [getN_err he] <;> rfl
    · rw [getN_err he]; exact fun h => absurd h he
  obtain rfl := hl he
  subst he
  clear hl
  repeat (first | (refine ⟨fun h => ?_, fun h => ?_⟩; rotate_left 1; (focus (exfalso; (first | (with_reducible (cases h; done)) | (revert h; simp; done) | (revert h; simp; omega) | (revert h; simp [*]; done)))); clear h) | (refine ⟨fun h => ?_, fun h => ?_⟩; (focus (exfalso; (first | (with_reducible (cases h; done)) | (revert h; simp; done) | (revert h; simp; omega) | (revert h; simp [*]; done)))); clear h))
  by_cases hk0 : k = 0
  · subst hk0
    repeat (first | (refine ⟨fun h => ?_, fun h => ?_⟩; rotate_left 1; (focus (exfalso; (first | (with_reducible (cases h; done)) | (revert h; simp; done) | (revert h; simp; omega) | (revert h; simp [*]; done)))); clear h) | (refine ⟨fun h => ?_, fun h => ?_⟩; (focus (exfalso; (first | (with_reducible (cases h; done)) | (revert h; simp; done) | (revert h; simp; omega) | (revert h; simp [*]; done)))); clear h))
    refine ⟨_, ld 0 rfl rfl, ?_⟩
    refine ⟨rfl, rfl, 0, rfl, rfl, Nat.le_of_ble_eq_true rfl, ?_⟩
    refine ⟨rfl, rfl, 0, rfl, rfl, Nat.le_of_ble_eq_true rfl, ?_⟩
    refine ⟨_, rdBlk 2 rfl, rfl, ?_⟩
    refine ⟨rfl, rfl, 1, rfl, rfl, Nat.le_of_ble_eq_true rfl, ?_⟩
    refine ⟨_, rdBlk 1 rfl, rfl, ?_⟩
    refine ⟨_, Ent.drop [_] [_, _], ?_, lr, ?_, ?_⟩
    · rw [getI, if_neg (fun h => h.2 rfl)]; rfl
    · rw [getN_zero]; rfl
    · rw [getN_zero]; exact fun h => absurd (show (3 : Int) = 0 from h) (by decide)
  repeat (first | (refine ⟨fun h => ?_, fun h => ?_⟩; rotate_left 1; (focus (exfalso; (first | (with_reducible (cases h; done)) | (revert h; simp; done) | (revert h; simp; omega) | (revert h; simp [*]; done)))); clear h) | (refine ⟨fun h => ?_, fun h => ?_⟩; (focus (exfalso; (first | (with_reducible (cases h; done)) | (revert h; simp; done) | (revert h; simp; omega) | (revert h; simp [*]; done)))); clear h))
  have hkn : knownB k = true := hk.resolve_left hk0
  obtain ⟨d, y, nx, hv, hq⟩ : ∃ (d : Int) (y : Item) (nx : Nat), Kept (rdV data off k most = .tuple ⟨[.agg ⟨y.cells⟩, .int .i64 nx, .int .i64 d]⟩) ∧
      Kept ((d = 0 → getN data (off, lr, 0) k most = (nx, off, 0) ∧ getI k most 0 (data.drop off) = y) ∧ (d ≠ 0 → getN data (off, lr, 0) k most = (off, off, d) ∧ getI k most 0 (data.drop off) = zeroI k most) ∧ True) := by
    refine ⟨_, _, _, ⟨rfl⟩, fun h => ⟨?_, ?_⟩, fun h => ⟨?_, ?_⟩, trivial⟩
    · rw [getN_known hkn, if_pos h, if_pos h]
    · rw [getI_yes hk0, if_pos h]
    · rw [getN_known hkn, if_neg h]
    · rw [getI_yes hk0, rd1_err h]
  refine ⟨[0], (.q 0 (.q 1 (.q 2 (.q 3 (.q 4 (.q 5 (.q 6 (.q 7 (.q 8 (.q 9 (.two 10 (.q 11 (.q 12 (.q 13 (.q 14 (.one 15 (.one 16 (.q 17 (.q 18 .nil)))))))) 15 (.one 10 (.q 11 (.q 12 (.q 13 (.q 14 (.one 16 (.q 17 (.q 18 .nil))))))))))))))))))), by kernel_rfl, ?_⟩
  refine ⟨_, ld 0 rfl rfl, ?_⟩
  refine ⟨_, ld 0 rfl rfl, ?_⟩
  refine ⟨?_, ?_⟩
  · skip
    refine ⟨[], _, refread_ok _ data off k most A cap hkn hm ho hd hc ((hs.rh _).rh _), ?_⟩
    rw [hv.out]
    rintro _ _ ⟨rfl, rfl⟩
    intro g8
    refine ⟨rfl, rfl, 2, rfl, rfl, Nat.le_of_ble_eq_true rfl, ?_⟩
    by_cases hd0 : d = 0
    case neg =>
      have hN := hq.out.2.1 hd0
      repeat (first | (refine ⟨fun h => ?_, fun h => ?_⟩; rotate_left 1; (focus (exfalso; (first | (with_reducible (cases h; done)) | (revert h; simp; done) | (revert h; simp; omega) | (revert h; simp [*]; done)))); clear h) | (refine ⟨fun h => ?_, fun h => ?_⟩; (focus (exfalso; (first | (with_reducible (cases h; done)) | (revert h; simp; done) | (revert h; simp; omega) | (revert h; simp [*]; done)))); clear h))
      refine ⟨rfl, rfl, 0, rfl, rfl, Nat.le_of_ble_eq_true rfl, ?_⟩
      refine ⟨_, rdBlk 2 rfl, rfl, ?_⟩
      refine ⟨rfl, rfl, 1, rfl, rfl, Nat.le_of_ble_eq_true rfl, ?_⟩
      refine ⟨_, rdBlk 1 rfl, rfl, ?_⟩
      refine ⟨_, Ent.drop [_] [_, _, _], ?_, lr, ?_, ?_⟩
      · rw [hN.2]; rfl
      · rw [hN.1]; rfl
      · rw [hN.1]; exact fun h => absurd h hd0
    have hN := hq.out.1 hd0
    repeat (first | (refine ⟨fun h => ?_, fun h => ?_⟩; rotate_left 1; (focus (exfalso; (first | (with_reducible (cases h; done)) | (revert h; simp; done) | (revert h; simp; omega) | (revert h; simp [*]; done)))); clear h) | (refine ⟨fun h => ?_, fun h => ?_⟩; (focus (exfalso; (first | (with_reducible (cases h; done)) | (revert h; simp; done) | (revert h; simp; omega) | (revert h; simp [*]; done)))); clear h))
    refine ⟨_, ld 0 rfl rfl, ?_⟩
    refine ⟨rfl, rfl, 0, rfl, rfl, Nat.le_of_ble_eq_true rfl, ?_⟩
    refine ⟨rfl, rfl, 0, rfl, rfl, Nat.le_of_ble_eq_true rfl, ?_⟩
    refine ⟨_, rdBlk 3 rfl, rfl, ?_⟩
    refine ⟨rfl, rfl, 1, rfl, rfl, Nat.le_of_ble_eq_true rfl, ?_⟩
    refine ⟨_, rdBlk 1 rfl, rfl, ?_⟩
    refine ⟨_, Ent.drop [_] [_, _, _], ?_, off, ?_, ?_⟩
    · rw [hN.2]; rfl
    · rw [hN.1]; rfl
    · rw [hN.1]; exact fun _ => rfl
  · intro g8
    refine ⟨[], _, refread_ok _ data off k most A cap hkn hm ho hd hc ((hs.rh _).rh _), ?_⟩
    rw [hv.out]
    rintro _ _ ⟨rfl, rfl⟩
    refine ⟨rfl, rfl, 2, rfl, rfl, Nat.le_of_ble_eq_true rfl, ?_⟩
    by_cases hd0 : d = 0
    case neg =>
      have hN := hq.out.2.1 hd0
      repeat (first | (refine ⟨fun h => ?_, fun h => ?_⟩; rotate_left 1; (focus (exfalso; (first | (with_reducible (cases h; done)) | (revert h; simp; done) | (revert h; simp; omega) | (revert h; simp [*]; done)))); clear h) | (refine ⟨fun h => ?_, fun h => ?_⟩; (focus (exfalso; (first | (with_reducible (cases h; done)) | (revert h; simp; done) | (revert h; simp; omega) | (revert h; simp [*]; done)))); clear h))
      refine ⟨rfl, rfl, 0, rfl, rfl, Nat.le_of_ble_eq_true rfl, ?_⟩
      refine ⟨_, rdBlk 2 rfl, rfl, ?_⟩
      refine ⟨rfl, rfl, 1, rfl, rfl, Nat.le_of_ble_eq_true rfl, ?_⟩
      refine ⟨_, rdBlk 1 rfl, rfl, ?_⟩
      refine ⟨_, Ent.drop [_] [_, _, _], ?_, lr, ?_, ?_⟩
      · rw [hN.2]; rfl
      · rw [hN.1]; rfl
      · rw [hN.1]; exact fun h => absurd h hd0
    have hN := hq.out.1 hd0
    repeat (first | (refine ⟨fun h => ?_, fun h => ?_⟩; rotate_left 1; (focus (exfalso; (first | (with_reducible (cases h; done)) | (revert h; simp; done) | (revert h; simp; omega) | (revert h; simp [*]; done)))); clear h) | (refine ⟨fun h => ?_, fun h => ?_⟩; (focus (exfalso; (first | (with_reducible (cases h; done)) | (revert h; simp; done) | (revert h; simp; omega) | (revert h; simp [*]; done)))); clear h))
    refine ⟨_, ld 0 rfl rfl, ?_⟩
    refine ⟨rfl, rfl, 0, rfl, rfl, Nat.le_of_ble_eq_true rfl, ?_⟩
    refine ⟨rfl, rfl, 0, rfl, rfl, Nat.le_of_ble_eq_true rfl, ?_⟩
    refine ⟨_, rdBlk 3 rfl, rfl, ?_⟩
    refine ⟨rfl, rfl, 1, rfl, rfl, Nat.le_of_ble_eq_true rfl, ?_⟩
    refine ⟨_, rdBlk 1 rfl, rfl, ?_⟩
    refine ⟨_, Ent.drop [_] [_, _, _], ?_, off, ?_, ?_⟩
    · rw [hN.2]; rfl
    · rw [hN.1]; rfl
    · rw [hN.1]; exact fun _ => rfl
set_option maxRecDepth 100000 in
set_option maxHeartbeats 8000000 in
theorem RREnd_ok (R : Rd) (g : Nat) (data : List UInt8) (off lr : Nat) (e : Int) (A : Option Addr) (cap : Nat) :
    Fn Try.prog 11 [.pointer (some ⟨g, 0, .none⟩)] [.blk g 30 (rrC A data.length cap off lr e)] R (fun v h => v = .tuple ⟨[.int .i64 off, .int .i64 (endE data off e)]⟩ ∧ h = [.blk g 30 (rrC A data.length cap off lr e)]) := by
  refine fn_of_vc mixed tabOk Try.func11 rfl (by kernel_rfl) (Nat.le_of_ble_eq_true rfl) ?_
  refine ⟨[0], lexT 0 17, by kernel_rfl, ?_⟩
  refine ⟨_, ld 0 rfl rfl, ?_⟩
  by_cases he : e = 0
  · repeat (first | (refine ⟨fun h => ?_, fun h => ?_⟩; rotate_left 1; (focus (exfalso; (first | (with_reducible (cases h; done)) | (revert h; simp; done) | (revert h; simp; omega) | (revert h; simp [*]; done)))); clear h) | (refine ⟨fun h => ?_, fun h => ?_⟩; (focus (exfalso; (first | (with_reducible (cases h; done)) | (revert h; simp; done) | (revert h; simp; omega) | (revert h; simp [*]; done)))); clear h))
    refine ⟨_, ld 0 rfl rfl, ?_⟩
    repeat (first | (refine ⟨fun h => ?_, fun h => ?_⟩; rotate_left 1; (focus (exfalso; (first | (with_reducible (cases h; done)) | (revert h; simp; done) | (revert h; simp; omega) | (revert h; simp [*]; done)))); clear h) | (refine ⟨fun h => ?_, fun h => ?_⟩; (focus (exfalso; (first | (with_reducible (cases h; done)) | (revert h; simp; done) | (revert h; simp; omega) | (revert h; simp [*]; done)))); clear h))
    refine ⟨_, ld 0 rfl rfl, ?_⟩
    repeat (first | (refine ⟨fun h => ?_, fun h => ?_⟩; rotate_left 1; (focus (exfalso; (first | (with_reducible (cases h; done)) | (revert h; simp; done) | (revert h; simp; omega) | (revert h; simp [*]; done)))); clear h) | (refine ⟨fun h => ?_, fun h => ?_⟩; (focus (exfalso; (first | (with_reducible (cases h; done)) | (revert h; simp; done) | (revert h; simp; omega) | (revert h; simp [*]; done)))); clear h))
    by_cases hlt : off < data.length
    · have e1 : endE data off e = 3 := by unfold endE; rw [if_pos he, if_pos hlt]
      repeat (first | (refine ⟨fun h => ?_, fun h => ?_⟩; rotate_left 1; (focus (exfalso; (first | (with_reducible (cases h; done)) | (revert h; simp; done) | (revert h; simp; omega) | (revert h; simp [*]; done)))); clear h) | (refine ⟨fun h => ?_, fun h => ?_⟩; (focus (exfalso; (first | (with_reducible (cases h; done)) | (revert h; simp; done) | (revert h; simp; omega) | (revert h; simp [*]; done)))); clear h))
      refine ⟨_, ld 0 rfl rfl, ?_⟩
      exact ⟨_, Ent.refl _, by rw [e1]; rfl, rfl⟩
    · have e1 : endE data off e = e := by unfold endE; rw [if_pos he, if_neg hlt, he]
      repeat (first | (refine ⟨fun h => ?_, fun h => ?_⟩; rotate_left 1; (focus (exfalso; (first | (with_reducible (cases h; done)) | (revert h; simp; done) | (revert h; simp; omega) | (revert h; simp [*]; done)))); clear h) | (refine ⟨fun h => ?_, fun h => ?_⟩; (focus (exfalso; (first | (with_reducible (cases h; done)) | (revert h; simp; done) | (revert h; simp; omega) | (revert h; simp [*]; done)))); clear h))
      refine ⟨[0], lexT 0 10, by kernel_rfl, ?_⟩
      refine ⟨_, ld 0 rfl rfl, ?_⟩
      refine ⟨_, ld 0 rfl rfl, ?_⟩
      exact ⟨_, Ent.refl _, by rw [e1]; rfl, rfl⟩
  · have e1 : endE data off e = e := if_neg he
    repeat (first | (refine ⟨fun h => ?_, fun h => ?_⟩; rotate_left 1; (focus (exfalso; (first | (with_reducible (cases h; done)) | (revert h; simp; done) | (revert h; simp; omega) | (revert h; simp [*]; done)))); clear h) | (refine ⟨fun h => ?_, fun h => ?_⟩; (focus (exfalso; (first | (with_reducible (cases h; done)) | (revert h; simp; done) | (revert h; simp; omega) | (revert h; simp [*]; done)))); clear h))
    refine ⟨[0], lexT 0 10, by kernel_rfl, ?_⟩
    refine ⟨_, ld 0 rfl rfl, ?_⟩
    refine ⟨_, ld 0 rfl rfl, ?_⟩
    exact ⟨_, Ent.refl _, by rw [e1]; rfl, rfl⟩

end Go.Proofs.Ytoddabjacjkjbaa
