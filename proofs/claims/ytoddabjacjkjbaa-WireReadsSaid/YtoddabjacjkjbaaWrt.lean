/-
  The contract of the reference's number.
-/
import Derived.Test.YtoddabjacjkjbaaWrs
import Derived.Test.YtoddabjacjkjbaaWrn
namespace Go.Proofs.Ytoddabjacjkjbaa
open Go Go.RowKit
set_option linter.unusedVariables false
set_option linter.unusedSimpArgs false

theorem byte1 {R : Rd} {A : Option Addr} {n cap : Nat} {b : List UInt8} (h : BsR R (.slice A n cap) b) {i : Nat} (hi : i < b.length) : ∃ a, A = some a ∧ R (addA a (Int.toNat (i : Int) * 1)) (.int .u8 (b.getD i 0).toNat) := by
  have hb : b[i]? = some (b.getD i 0) := by rw [List.getD_eq_getElem?_getD, List.getElem?_eq_getElem hi]; rfl
  obtain ⟨a, ha, hr⟩ := h.at_ hb
  exact ⟨a, ha, by rw [show Int.toNat (i : Int) * 1 = i by simp, ← addA_eq]; exact hr⟩
theorem remn {a b : Nat} {x z : Int} (hx : x = (a : Int)) (hz : z = x.tmod (b : Int)) : z = ((a % b : Nat) : Int) := by
  subst hx
  rw [hz, Int.ofNat_tmod]
theorem marked_next {l : List UInt8} {n : Nat} {b : UInt8} (h : marked l n) (hb : l[n]? = some b) (h2 : 128 ≤ b.toNat) : marked l (n + 1) := fun i c hi hc => by
  rcases Nat.lt_or_ge i n with h3 | h3
  · exact h i c h3 hc
  · obtain rfl : i = n := by omega
    rw [hb] at hc
    cases hc
    exact h2
theorem horn_drop {l : List UInt8} {i : Nat} {b : UInt8} (h : l[i]? = some b) : horn (l.drop i) = b.toNat % 128 + 128 * horn (l.drop (i + 1)) := by
  obtain ⟨hlt, rfl⟩ := List.getElem?_eq_some_iff.1 h
  rw [List.drop_eq_getElem_cons hlt]; rfl
def NumV (data : List UInt8) (off : Nat) (v : Value) : Prop :=
  (∃ n r, dec (data.drop off) = some (n, r) ∧ r.length ≤ data.length ∧ v = .tuple ⟨[.int .u64 n, .int .i64 ((data.length - r.length : Nat) : Int), .bool true]⟩) ∨ (dec (data.drop off) = .none ∧ v = .tuple ⟨[.int .u64 0, .int .i64 0, .bool false]⟩)
set_option maxRecDepth 100000 in
set_option maxHeartbeats 8000000 in
theorem refnumber_ok (R : Rd) (data : List UInt8) (off : Nat) (v0 : Value) (ho : off ≤ data.length) (hd : data.length ≤ 1000000) (hs : BsR R v0 data) :
    Fn Try.prog 44 [v0, .int .i64 off] [] R (fun v h => NumV data off v ∧ h = []) := by
  obtain ⟨A, cap, rfl⟩ := hs.form
  have hll : (data.drop off).length = data.length - off := List.length_drop
  have hget : ∀ i, (data.drop off)[i]? = data[off + i]? := fun i => List.getElem?_drop
  generalize hl : data.drop off = l at hll hget
  unfold NumV
  rw [hl]
  refine fn_of_vc mixed tabOk Try.func44 rfl (by kernel_rfl) (Nat.le_of_ble_eq_true rfl) ?_
  refine ⟨[none, none, none, none, some 4, some 5, some 6, some 7, some 8, some 9, some 10, some 11, some 12, some 13, some 14, some 15, some 16, some 17, some 18, some 19, some 20, some 21, some 22, some 23, some 24, some 25, some 26, some 27, some 28, some 29, some 30, some 31, some 32, some 33, some 34, some 35, some 36, some 37, some 38, some 39, some 40, some 41, some 42, some 43, some 44, some 45, some 46, some 47, some 48, some 49, some 50, some 51, some 52, some 53, some 54, some 55, some 56, some 57, some 58, some 59, some 60, some 61, some 62, some 63, some 64, some 65, some 66, some 67, some 68, some 69, some 70, some 71, some 72, some 73, some 74], [7], Nat, fun n => n ≤ 10 ∧ n ≤ l.length ∧ marked l n, fun n => [.int .i64 ((n + 1 : Nat) : Int)], fun _ => [], fun n => 10 - n, 0, ⟨Nat.zero_le _, Nat.zero_le _, fun i b h => by omega⟩, ⟨rfl, trivial⟩, Ent.refl _, ?_⟩
  rintro n ⟨hn, hnl, hm⟩ js
  have hn : n ≤ 10 := hn
  have hnl : n ≤ l.length := hnl
  by_cases c1 : n + 1 ≤ 10
  case neg =>
    repeat (first | (refine ⟨fun h => ?_, fun h => ?_⟩; rotate_left 1; (focus (exfalso; (first | (with_reducible (cases h; done)) | (revert h; simp; done) | (revert h; simp; omega) | (revert h; simp [*]; done)))); clear h) | (refine ⟨fun h => ?_, fun h => ?_⟩; (focus (exfalso; (first | (with_reducible (cases h; done)) | (revert h; simp; done) | (revert h; simp; omega) | (revert h; simp [*]; done)))); clear h))
    exact ⟨_, Ent.nil _, .inr ⟨refnum_none hm (.inl (by omega)), rfl⟩, rfl⟩
  repeat (first | (refine ⟨fun h => ?_, fun h => ?_⟩; rotate_left 1; (focus (exfalso; (first | (with_reducible (cases h; done)) | (revert h; simp; done) | (revert h; simp; omega) | (revert h; simp [*]; done)))); clear h) | (refine ⟨fun h => ?_, fun h => ?_⟩; (focus (exfalso; (first | (with_reducible (cases h; done)) | (revert h; simp; done) | (revert h; simp; omega) | (revert h; simp [*]; done)))); clear h))
  (intro z hz; obtain rfl : z = ((off + (n + 1) : Nat) : Int) := (by first | (rw [IntKind.wrap_i64] at hz; omega) | (rw [IntKind.wrap_u64] at hz; omega) | omega); clear hz)
  by_cases c2 : off + (n + 1) ≤ data.length
  case neg =>
    repeat (first | (refine ⟨fun h => ?_, fun h => ?_⟩; rotate_left 1; (focus (exfalso; (first | (with_reducible (cases h; done)) | (revert h; simp; done) | (revert h; simp; omega) | (revert h; simp [*]; done)))); clear h) | (refine ⟨fun h => ?_, fun h => ?_⟩; (focus (exfalso; (first | (with_reducible (cases h; done)) | (revert h; simp; done) | (revert h; simp; omega) | (revert h; simp [*]; done)))); clear h))
    exact ⟨_, Ent.nil _, .inr ⟨refnum_none hm (.inr (by omega)), rfl⟩, rfl⟩
  repeat (first | (refine ⟨fun h => ?_, fun h => ?_⟩; rotate_left 1; (focus (exfalso; (first | (with_reducible (cases h; done)) | (revert h; simp; done) | (revert h; simp; omega) | (revert h; simp [*]; done)))); clear h) | (refine ⟨fun h => ?_, fun h => ?_⟩; (focus (exfalso; (first | (with_reducible (cases h; done)) | (revert h; simp; done) | (revert h; simp; omega) | (revert h; simp [*]; done)))); clear h))
  (intro z hz; obtain rfl : z = ((off + (n + 1) : Nat) : Int) := (by first | (rw [IntKind.wrap_i64] at hz; omega) | (rw [IntKind.wrap_u64] at hz; omega) | omega); clear hz)
  (intro z hz; obtain rfl : z = ((off + n : Nat) : Int) := (by first | (rw [IntKind.wrap_i64] at hz; omega) | (rw [IntKind.wrap_u64] at hz; omega) | omega); clear hz)
  obtain ⟨a, ha, hra⟩ := byte1 hs (i := off + n) (by omega)
  have hgb : l[n]? = some (data.getD (off + n) 0) := by rw [hget, List.getD_eq_getElem?_getD, List.getElem?_eq_getElem (by omega)]; rfl
  refine ⟨by omega, by omega, a, ha, ?_⟩
  refine ⟨_, .inl hra, ?_⟩
  generalize data.getD (off + n) 0 = b at hgb
  have hb8 : b.toNat < 256 := UInt8.toNat_lt b
  by_cases c3 : 128 ≤ b.toNat
  · repeat (first | (refine ⟨fun h => ?_, fun h => ?_⟩; rotate_left 1; (focus (exfalso; (first | (with_reducible (cases h; done)) | (revert h; simp; done) | (revert h; simp; omega) | (revert h; simp [*]; done)))); clear h) | (refine ⟨fun h => ?_, fun h => ?_⟩; (focus (exfalso; (first | (with_reducible (cases h; done)) | (revert h; simp; done) | (revert h; simp; omega) | (revert h; simp [*]; done)))); clear h))
    (intro z hz; obtain rfl : z = ((n + 1 + 1 : Nat) : Int) := (by first | (rw [IntKind.wrap_i64] at hz; omega) | (rw [IntKind.wrap_u64] at hz; omega) | omega); clear hz)
    exact ⟨rfl, n + 1, ⟨c1, by show n + 1 ≤ _; omega, marked_next hm hgb c3⟩, by show 10 - (n + 1) < 10 - n; omega, ⟨rfl, trivial⟩, Ent.refl _, rfl⟩
  repeat (first | (refine ⟨fun h => ?_, fun h => ?_⟩; rotate_left 1; (focus (exfalso; (first | (with_reducible (cases h; done)) | (revert h; simp; done) | (revert h; simp; omega) | (revert h; simp [*]; done)))); clear h) | (refine ⟨fun h => ?_, fun h => ?_⟩; (focus (exfalso; (first | (with_reducible (cases h; done)) | (revert h; simp; done) | (revert h; simp; omega) | (revert h; simp [*]; done)))); clear h))
  (intro z hz; obtain rfl : z = ((n : Nat) : Int) := (by first | (rw [IntKind.wrap_i64] at hz; omega) | (rw [IntKind.wrap_u64] at hz; omega) | omega); clear hz)
  have htl : (l.take (n + 1)).length = n + 1 := by rw [List.length_take]; omega
  have htg : ∀ i, i < n + 1 → (l.take (n + 1))[i]? = some (data.getD (off + i) 0) := fun i hi => by
    rw [List.getElem?_take_of_lt hi, hget, List.getD_eq_getElem?_getD, List.getElem?_eq_getElem (by omega)]; rfl
  refine ⟨[none, none, none, none, none, none, none, none, some 8, some 9, none, none, none, none, none, none, none, none, none, none, none, none, none, none, none, none, none, none, none, none, none, none, none, none, some 34, some 35, some 36, some 37, some 38, some 39, some 40, some 41, some 42, some 43, some 44, some 45, some 46, some 47, some 48], [8, 9], Nat × Nat, fun ⟨i, acc⟩ => i ≤ n + 1 ∧ acc = horn ((l.take (n + 1)).drop i) % 18446744073709551616, fun ⟨i, acc⟩ => [.int .u64 acc, .int .i64 ((i : Int) - 1)], fun _ => [], fun ⟨i, _⟩ => i, (n + 1, 0),
    ⟨Nat.le_refl _, by rw [List.drop_of_length_le (by omega)]; rfl⟩, ⟨rfl, by show Value.int .i64 _ = Value.int .i64 _; congr 1; omega, trivial⟩, Ent.refl _, ?_⟩
  rintro ⟨i, acc⟩ ⟨hi, hacc⟩ js2
  have hi : i ≤ n + 1 := hi
  have hacc : acc = horn ((l.take (n + 1)).drop i) % 18446744073709551616 := hacc
  by_cases hi0 : 0 < i
  · obtain ⟨k, rfl⟩ : ∃ k, i = k + 1 := ⟨i - 1, by omega⟩
    repeat (first | (refine ⟨fun h => ?_, fun h => ?_⟩; rotate_left 1; (focus (exfalso; (first | (with_reducible (cases h; done)) | (revert h; simp; done) | (revert h; simp; omega) | (revert h; simp [*]; done)))); clear h) | (refine ⟨fun h => ?_, fun h => ?_⟩; (focus (exfalso; (first | (with_reducible (cases h; done)) | (revert h; simp; done) | (revert h; simp; omega) | (revert h; simp [*]; done)))); clear h))
    intro z hz
    (intro z hz; obtain rfl : z = ((off + k : Nat) : Int) := (by first | (rw [IntKind.wrap_i64] at hz; omega) | (rw [IntKind.wrap_u64] at hz; omega) | omega); clear hz)
    obtain ⟨a2, ha2, hra2⟩ := byte1 hs (i := off + k) (by omega)
    rw [ha] at ha2; cases ha2
    refine ⟨by omega, by omega, a, ha, ?_⟩
    refine ⟨_, .inl hra2, ?_⟩
    have hk := horn_drop (htg k (by omega))
    generalize data.getD (off + k) 0 = c at hk
    have hc8 : c.toNat < 256 := UInt8.toNat_lt c
    refine ⟨by decide, ?_⟩
    intro y hy
    obtain rfl := remn (a := c.toNat) (b := 128) rfl hy
    clear hy
    (intro z hz; obtain rfl : z = ((c.toNat % 128 : Nat) : Int) := (by first | (rw [IntKind.wrap_i64] at hz; omega) | (rw [IntKind.wrap_u64] at hz; omega) | omega); clear hz)
    intro x hx
    rw [IntKind.wrap_u64] at hz hx
    obtain ⟨m, rfl⟩ : ∃ m : Nat, x = m := ⟨x.toNat, by omega⟩
    intro w hw
    obtain rfl := wr_i64 hw (by omega) (by omega)
    refine ⟨rfl, (k, m), ⟨by show k ≤ n + 1; omega, ?_⟩, by show k < k + 1; omega, ⟨rfl, by show Value.int .i64 _ = Value.int .i64 _; congr 1; omega, trivial⟩, Ent.refl _, rfl⟩
    show m = horn ((l.take (n + 1)).drop k) % 18446744073709551616
    rw [hk]
    generalize horn ((l.take (n + 1)).drop (k + 1)) = H at hacc ⊢
    omega
  obtain rfl : i = 0 := by omega
  rw [List.drop_zero] at hacc
  repeat (first | (refine ⟨fun h => ?_, fun h => ?_⟩; rotate_left 1; (focus (exfalso; (first | (with_reducible (cases h; done)) | (revert h; simp; done) | (revert h; simp; omega) | (revert h; simp [*]; done)))); clear h) | (refine ⟨fun h => ?_, fun h => ?_⟩; (focus (exfalso; (first | (with_reducible (cases h; done)) | (revert h; simp; done) | (revert h; simp; omega) | (revert h; simp [*]; done)))); clear h))
  refine ⟨[], _, Number_ok _ acc (by omega), ?_⟩
  rintro _ _ ⟨B, k, bc, xs, rfl, rfl, hk, rfl, hgB⟩
  have hlk := length_num acc
  by_cases c4 : k = n + 1
  case neg =>
    repeat (first | (refine ⟨fun h => ?_, fun h => ?_⟩; rotate_left 1; (focus (exfalso; (first | (with_reducible (cases h; done)) | (revert h; simp; done) | (revert h; simp; omega) | (revert h; simp [*]; done)))); clear h) | (refine ⟨fun h => ?_, fun h => ?_⟩; (focus (exfalso; (first | (with_reducible (cases h; done)) | (revert h; simp; done) | (revert h; simp; omega) | (revert h; simp [*]; done)))); clear h))
    refine ⟨_, Ent.nil _, .inr ⟨refnum_no hm hgb (by omega) (fun e => c4 ?_), rfl⟩, rfl⟩
    rw [hk, hacc, e, htl]
  repeat (first | (refine ⟨fun h => ?_, fun h => ?_⟩; rotate_left 1; (focus (exfalso; (first | (with_reducible (cases h; done)) | (revert h; simp; done) | (revert h; simp; omega) | (revert h; simp [*]; done)))); clear h) | (refine ⟨fun h => ?_, fun h => ?_⟩; (focus (exfalso; (first | (with_reducible (cases h; done)) | (revert h; simp; done) | (revert h; simp; omega) | (revert h; simp [*]; done)))); clear h))
  obtain ⟨gB, rfl⟩ := growA hgB (by omega)
  subst c4
  refine ⟨[none, none, none, none, some 4, some 5, some 6, none, none, none, none, some 11, none, none, none, none, none, none, none, none, none, none, none, none, none, none, none, none, none, none, none, none, none, none, none, none, none, none, none, none, none, none, none, none, none, none, none, none, none, none, none, none, none, none, none, some 55, some 56, some 57, some 58, some 59, some 60, some 61, some 62, some 63, some 64, some 65, some 66, some 67, some 68, some 69, some 70], [11], Nat, fun j => j ≤ n + 1 ∧ (num acc).take j = (l.take (n + 1)).take j, fun j => [.int .i64 j], fun _ => [.row (some ⟨gB, 0, .none⟩) (n + 1) bc 5 1 (BV (num acc)) (0, 0)], fun j => n + 1 - j, 0, ⟨Nat.zero_le _, rfl⟩, ⟨rfl, trivial⟩, Ent.refl _, ?_⟩
  rintro j ⟨hj, he⟩ js3
  have hj : j ≤ n + 1 := hj
  by_cases c5 : j < n + 1
  · repeat (first | (refine ⟨fun h => ?_, fun h => ?_⟩; rotate_left 1; (focus (exfalso; (first | (with_reducible (cases h; done)) | (revert h; simp; done) | (revert h; simp; omega) | (revert h; simp [*]; done)))); clear h) | (refine ⟨fun h => ?_, fun h => ?_⟩; (focus (exfalso; (first | (with_reducible (cases h; done)) | (revert h; simp; done) | (revert h; simp; omega) | (revert h; simp [*]; done)))); clear h))
    obtain ⟨y, hy⟩ : ∃ y, (num acc)[j]? = some y := ⟨_, List.getElem?_eq_getElem (by omega)⟩
    have hx := htg j c5
    refine ⟨[0], lexT 0 11, by kernel_rfl, ?_⟩
    refine ⟨by omega, by omega, _, rfl, ?_⟩
    refine ⟨_, ldr1 0 rfl (BV_get hy), ?_⟩
    (intro z hz; obtain rfl : z = ((off + j : Nat) : Int) := (by first | (rw [IntKind.wrap_i64] at hz; omega) | (rw [IntKind.wrap_u64] at hz; omega) | omega); clear hz)
    obtain ⟨a2, ha2, hra2⟩ := byte1 hs (i := off + j) (by omega)
    rw [ha] at ha2; cases ha2
    refine ⟨by omega, by omega, a, ha, ?_⟩
    refine ⟨_, .inl hra2, ?_⟩
    generalize data.getD (off + j) 0 = x at hx
    by_cases c6 : y = x
    · subst c6
      repeat (first | (refine ⟨fun h => ?_, fun h => ?_⟩; rotate_left 1; (focus (exfalso; (first | (with_reducible (cases h; done)) | (revert h; simp; done) | (revert h; simp; omega) | (revert h; simp [*]; done)))); clear h) | (refine ⟨fun h => ?_, fun h => ?_⟩; (focus (exfalso; (first | (with_reducible (cases h; done)) | (revert h; simp; done) | (revert h; simp; omega) | (revert h; simp [*]; done)))); clear h))
      (intro z hz; obtain rfl : z = ((j + 1 : Nat) : Int) := (by first | (rw [IntKind.wrap_i64] at hz; omega) | (rw [IntKind.wrap_u64] at hz; omega) | omega); clear hz)
      exact ⟨rfl, j + 1, ⟨by show j + 1 ≤ _; omega, take_succ_eq he hy hx⟩, by show n + 1 - (j + 1) < n + 1 - j; omega, ⟨rfl, trivial⟩, Ent.refl _, rfl⟩
    · have c7 : ¬ (y.toNat : Int) = (x.toNat : Int) := fun h => c6 (UInt8.toNat.inj (by omega))
      repeat (first | (refine ⟨fun h => ?_, fun h => ?_⟩; rotate_left 1; (focus (exfalso; (first | (with_reducible (cases h; done)) | (revert h; simp; done) | (revert h; simp; omega) | (revert h; simp [*]; done)))); clear h) | (refine ⟨fun h => ?_, fun h => ?_⟩; (focus (exfalso; (first | (with_reducible (cases h; done)) | (revert h; simp; done) | (revert h; simp; omega) | (revert h; simp [*]; done)))); clear h))
      refine ⟨_, Ent.nil _, .inr ⟨refnum_no hm hgb (by omega) (fun e => c6 ?_), rfl⟩, rfl⟩
      rw [← hacc] at e
      rw [e, hx] at hy
      cases hy
      rfl
  · refine ⟨fun hb => absurd (of_decide_eq_true hb) (by omega), fun _ => ?_⟩
    obtain rfl : j = n + 1 := by omega
    have hnum : num acc = l.take (n + 1) := by
      rw [List.take_of_length_le (l := num acc) (by omega), List.take_of_length_le (l := l.take (n + 1)) (by omega)] at he
      exact he
    (intro z hz; obtain rfl : z = ((off + (n + 1) : Nat) : Int) := (by first | (rw [IntKind.wrap_i64] at hz; omega) | (rw [IntKind.wrap_u64] at hz; omega) | omega); clear hz)
    refine ⟨_, Ent.nil _, .inl ⟨acc, l.drop (n + 1), refnum_yes (by omega) hnum, by rw [List.length_drop]; omega, ?_⟩, rfl⟩
    show Value.tuple ⟨[_, .int .i64 ((off + (n + 1) : Nat) : Int), _]⟩ = _
    rw [List.length_drop, hll, show data.length - (data.length - off - (n + 1)) = off + (n + 1) by omega]

end Go.Proofs.Ytoddabjacjkjbaa
