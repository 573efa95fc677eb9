/-
  The contracts of the reference's reader; the law WireReads.
-/
import Derived.Test.YtoddabjacjkjbaaWrt
namespace Go.Proofs.Ytoddabjacjkjbaa
open Go Go.RowKit
set_option linter.unusedVariables false
set_option linter.unusedSimpArgs false

theorem SeenV.cap1 {R : Rd} {v : Value} (h : SeenV R (.sl 1 (.int .u8)) v) : ∃ (l : List UInt8) (A : Option Addr) (cap : Nat), v = .slice A l.length cap ∧ l.length ≤ maxLen ∧ l.length ≤ cap ∧ BsR R v l := by
  obtain ⟨l, hl, hs⟩ := h.bytes
  obtain ⟨A, cap, rfl⟩ := hs.form
  refine ⟨l, A, cap, rfl, hl, ?_, hs⟩
  obtain ⟨h, hv⟩ := h
  rw [cells_one hv] at h
  rcases h with h | ⟨a, n, cap', h, hnc, _, _⟩
  · simp only [List.cons.injEq, Value.slice.injEq, and_true] at h
    omega
  · simp only [List.cons.injEq, Value.slice.injEq, and_true] at h
    omega
theorem sub_bytes {R : Rd} {A : Option Addr} {n cap : Nat} {b : List UInt8} (h : BsR R (.slice A n cap) b) {o m : Nat} (hm : o + m ≤ b.length) (hc : b.length ≤ cap) :
    ∀ j c, ((b.drop o).take m)[j]? = some c → ∃ a, sliceBase A cap o 1 = some a ∧ R (a.add j) (.int .u8 c.toNat) := by
  intro j c hj
  have hlt : j < m := by
    have := (List.getElem?_eq_some_iff.1 hj).1
    rw [List.length_take] at this; omega
  rw [List.getElem?_take_of_lt hlt, List.getElem?_drop] at hj
  obtain ⟨a, rfl, hr⟩ := h.at_ hj
  refine ⟨a.add (o * 1), by unfold sliceBase; rw [if_neg (by omega)]; rfl, ?_⟩
  rw [add_add, Nat.mul_one]; exact hr
theorem drop_tail {data pre r : List UInt8} (h : data = pre ++ r) : data.drop (data.length - r.length) = r := by
  subst h
  rw [List.length_append, Nat.add_sub_cancel, List.drop_left]
theorem dec_tail {data : List UInt8} {off n : Nat} {r : List UInt8} (h : dec (data.drop off) = some (n, r)) : data.drop (data.length - r.length) = r :=
  drop_tail (pre := data.take off ++ num n) (by rw [List.append_assoc, ← (dec_iff.1 h).1, List.take_append_drop])

theorem rd1_6 (most : Int) (l : List UInt8) : rd1 6 most l = ((sumD l).1, ⟨6, 0, 0, false, (sumD l).2.1, most⟩, (sumD l).2.2) := by
  rw [rd1, if_neg (by decide), if_neg (by decide), if_neg (by decide), if_neg (by decide), if_pos rfl]
theorem rd1_3 (most : Int) (l : List UInt8) : rd1 3 most l = ((boolD l).1, ⟨3, 0, 0, (boolD l).2.1, [], most⟩, (boolD l).2.2) := by
  rw [rd1, if_neg (by decide), if_neg (by decide), if_pos rfl]
theorem rd1_1 (most : Int) (l : List UInt8) : rd1 1 most l = ((uintD l).1, ⟨1, (uintD l).2.1, 0, false, [], most⟩, (uintD l).2.2) := by
  rw [rd1, if_pos rfl]
theorem rd1_2 (most : Int) (l : List UInt8) : rd1 2 most l = ((uintD l).1, ⟨2, 0, zag (uintD l).2.1, false, [], most⟩, (uintD l).2.2) := by
  rw [rd1, if_neg (by decide), if_pos rfl]
theorem rd1_7 (most : Int) (l : List UInt8) : rd1 7 most l = ((limD most l).1, ⟨7, 0, ((limD most l).2.1 : Nat), false, [], most⟩, (limD most l).2.2) := by
  rw [rd1, if_neg (by decide), if_neg (by decide), if_neg (by decide), if_neg (by decide), if_neg (by decide), if_pos rfl]
theorem rd1_45 {k : Int} (hk : k = 4 ∨ k = 5) (most : Int) (l : List UInt8) : rd1 k most l = ((blkD most l).1, ⟨k, 0, 0, false, (blkD most l).2.1, most⟩, (blkD most l).2.2) := by
  rw [rd1, if_neg (by omega), if_neg (by omega), if_neg (by omega), if_pos hk]
theorem rd1_none {k most : Int} {l : List UInt8} (h : dec l = .none) (h1 : knownB k = true) (h3 : ¬ k = 3) (h6 : ¬ k = 6) : (rd1 k most l).1 = 3 := by
  have hk : 1 ≤ k ∧ k ≤ 7 := by simpa [knownB] using h1
  have e1 : uintD l = (3, 0, []) := by unfold uintD; rw [h]
  have e2 : limD most l = (3, 0, []) := by unfold limD; rw [h]
  have e3 : blkD most l = (3, [], []) := by unfold blkD; rw [e2, if_neg (by decide)]
  by_cases c1 : k = 1
  · subst c1; rw [rd1_1, e1]
  by_cases c2 : k = 2
  · subst c2; rw [rd1_2, e1]
  by_cases c7 : k = 7
  · subst c7; rw [rd1_7, e2]
  rw [rd1_45 (by omega), e3]
theorem rd1_big {k most : Int} {l r : List UInt8} {n : Nat} (h : dec l = some (n, r)) (hn : max most 0 < (n : Int)) (hk : k = 7 ∨ k = 4 ∨ k = 5) : (rd1 k most l).1 = 2 := by
  have e2 : limD most l = (2, 0, []) := by unfold limD; rw [h]; exact if_pos hn
  rcases hk with rfl | hk
  · rw [rd1_7, e2]
  · rw [rd1_45 hk]; unfold blkD; rw [e2, if_neg (by decide)]

def rdV (data : List UInt8) (off : Nat) (k most : Int) : Value :=
  .tuple ⟨[.agg ⟨(if (rd1 k most (data.drop off)).1 = 0 then (rd1 k most (data.drop off)).2.1 else zeroI k most).cells⟩,
    .int .i64 ((if (rd1 k most (data.drop off)).1 = 0 then data.length - (rd1 k most (data.drop off)).2.2.length else off : Nat) : Int), .int .i64 (rd1 k most (data.drop off)).1]⟩
theorem rdv_no {data : List UInt8} {off : Nat} {k most e : Int} (h : (rd1 k most (data.drop off)).1 = e) (he : e ≠ 0) : Value.tuple ⟨[.agg ⟨(zeroI k most).cells⟩, .int .i64 off, .int .i64 e]⟩ = rdV data off k most := by
  unfold rdV
  rw [h, if_neg he, if_neg he]
theorem rdv_yes {data : List UInt8} {off nx : Nat} {k most : Int} {x : Item} {r : List UInt8} (h : rd1 k most (data.drop off) = (0, x, r)) (hn : nx = data.length - r.length) :
    Value.tuple ⟨[.agg ⟨x.cells⟩, .int .i64 nx, .int .i64 0]⟩ = rdV data off k most := by
  unfold rdV
  rw [h, if_pos rfl, if_pos rfl, hn]

structure Kept (p : Prop) : Prop where
  out : p
/-- What follows is kept out of sight. -/
theorem seq_hid {P : Program} {tab : Tab} {R : Rd} {a b : Code} {N : Kont} {X : Nat → Kont} {Rt : Kont} {ρ : List Value} {ds : List Deferred} {h : Hp}
    (H : ∀ K : Kont, Kept (K = fun ρ' ds' h' => vcC P tab R b N X Rt ρ' ds' h') → vcC P tab R a K X Rt ρ ds h) : vcC P tab R (.seq a b) N X Rt ρ ds h := H _ ⟨rfl⟩
theorem bool_read {data : List UInt8} {off : Nat} {b : UInt8} {most : Int} (e : data.drop off = b :: data.drop (off + 1)) :
    (1 < b.toNat → (rd1 3 most (data.drop off)).1 = 3) ∧ (¬ 1 < b.toNat → rd1 3 most (data.drop off) = (0, ⟨3, 0, 0, decide ((b.toNat : Int) = 1), [], most⟩, data.drop (off + 1))) := by
  refine ⟨fun h => ?_, fun h => ?_⟩
  · rw [rd1_3, e]
    exact congrArg Prod.fst (show boolD (b :: data.drop (off + 1)) = (3, false, []) from if_pos h)
  · have e2 : boolD (b :: data.drop (off + 1)) = (0, decide (b.toNat = 1), data.drop (off + 1)) := if_neg h
    have e3 : decide (b.toNat = 1) = decide ((b.toNat : Int) = 1) := decide_eq_decide.2 (by omega)
    rw [rd1_3, e, e2, e3]
theorem bool_none {data : List UInt8} {off : Nat} {most : Int} (e : data.drop off = []) : (rd1 3 most (data.drop off)).1 = 3 := by
  rw [rd1_3, e]; rfl
set_option maxRecDepth 100000 in
set_option maxHeartbeats 8000000 in
theorem refread_ok (R : Rd) (data : List UInt8) (off : Nat) (k most : Int) (A : Option Addr) (cap : Nat) (hk : knownB k = true) (hm : most ≤ 9223372036854775807) (ho : off ≤ data.length) (hd : data.length ≤ 1000000) (hc : data.length ≤ cap) (hs : BsR R (.slice A data.length cap) data) :
    Fn Try.prog 27 [.slice A data.length cap, .int .i64 off, .int .i64 k, .int .i64 most] [] R (fun v h => v = rdV data off k most ∧ h = []) := by
  have hkk : 1 ≤ k ∧ k ≤ 7 := by simpa [knownB] using hk
  have hll : (data.drop off).length = data.length - off := List.length_drop
  refine fn_of_vc mixed tabOk Try.func27 rfl (by kernel_rfl) (Nat.le_of_ble_eq_true rfl) ?_
  intro g8 g11
  refine ⟨rfl, rfl, 1, rfl, rfl, Nat.le_of_ble_eq_true rfl, ?_⟩
  by_cases k6 : k = 6
  · subst k6
    have hrd := rd1_6 most (data.drop off)
    repeat (first | (refine ⟨fun h => ?_, fun h => ?_⟩; rotate_left 1; (focus (exfalso; (first | (with_reducible (cases h; done)) | (revert h; simp; done) | (revert h; simp; omega) | (revert h; simp [*]; done)))); clear h) | (refine ⟨fun h => ?_, fun h => ?_⟩; (focus (exfalso; (first | (with_reducible (cases h; done)) | (revert h; simp; done) | (revert h; simp; omega) | (revert h; simp [*]; done)))); clear h))
    (intro z hz; obtain rfl : z = ((data.length - off : Nat) : Int) := (by first | (rw [IntKind.wrap_i64] at hz; omega) | (rw [IntKind.wrap_u64] at hz; omega) | omega); clear hz)
    by_cases c : data.length - off < 32
    · have e : sumD (data.drop off) = (3, [], []) := by unfold sumD; rw [if_pos (by omega)]
      rw [e] at hrd
      repeat (first | (refine ⟨fun h => ?_, fun h => ?_⟩; rotate_left 1; (focus (exfalso; (first | (with_reducible (cases h; done)) | (revert h; simp; done) | (revert h; simp; omega) | (revert h; simp [*]; done)))); clear h) | (refine ⟨fun h => ?_, fun h => ?_⟩; (focus (exfalso; (first | (with_reducible (cases h; done)) | (revert h; simp; done) | (revert h; simp; omega) | (revert h; simp [*]; done)))); clear h))
      refine ⟨_, rdBlk 1 rfl, rfl, ?_⟩
      refine ⟨rfl, rfl, 0, rfl, rfl, Nat.le_of_ble_eq_true rfl, ?_⟩
      refine ⟨_, rdBlk 0 rfl, rfl, ?_⟩
      exact ⟨_, Ent.nil _, rdv_no (e := 3) (by rw [hrd]) (by decide), rfl⟩
    · have e : sumD (data.drop off) = (0, (data.drop off).take 32, (data.drop off).drop 32) := by unfold sumD; rw [if_neg (by omega)]
      rw [e] at hrd
      repeat (first | (refine ⟨fun h => ?_, fun h => ?_⟩; rotate_left 1; (focus (exfalso; (first | (with_reducible (cases h; done)) | (revert h; simp; done) | (revert h; simp; omega) | (revert h; simp [*]; done)))); clear h) | (refine ⟨fun h => ?_, fun h => ?_⟩; (focus (exfalso; (first | (with_reducible (cases h; done)) | (revert h; simp; done) | (revert h; simp; omega) | (revert h; simp [*]; done)))); clear h))
      (intro z hz; obtain rfl : z = ((off + 32 : Nat) : Int) := (by first | (rw [IntKind.wrap_i64] at hz; omega) | (rw [IntKind.wrap_u64] at hz; omega) | omega); clear hz)
      refine ⟨off, off + 32, rfl, rfl, by omega, by omega, ?_⟩
      refine ⟨(data.drop off).take 32, by rw [List.length_take]; omega, fun j b hb => sub_bytes (hs.rh _) (o := off) (m := 32) (by omega) hc j b hb, ?_⟩
      refine ⟨rfl, rfl, 1, rfl, rfl, Nat.le_of_ble_eq_true rfl, ?_⟩
      refine ⟨_, rdBlk 1 rfl, rfl, ?_⟩
      (intro z hz; obtain rfl : z = ((off + 32 : Nat) : Int) := (by first | (rw [IntKind.wrap_i64] at hz; omega) | (rw [IntKind.wrap_u64] at hz; omega) | omega); clear hz)
      refine ⟨rfl, rfl, 0, rfl, rfl, Nat.le_of_ble_eq_true rfl, ?_⟩
      refine ⟨_, rdBlk 0 rfl, rfl, ?_⟩
      exact ⟨_, Ent.nil _, rdv_yes (nx := off + 32) hrd (by rw [List.length_drop]; omega), rfl⟩
  repeat (first | (refine ⟨fun h => ?_, fun h => ?_⟩; rotate_left 1; (focus (exfalso; (first | (with_reducible (cases h; done)) | (revert h; simp; done) | (revert h; simp; omega) | (revert h; simp [*]; done)))); clear h) | (refine ⟨fun h => ?_, fun h => ?_⟩; (focus (exfalso; (first | (with_reducible (cases h; done)) | (revert h; simp; done) | (revert h; simp; omega) | (revert h; simp [*]; done)))); clear h))
  by_cases k3 : k = 3
  · subst k3
    repeat (first | (refine ⟨fun h => ?_, fun h => ?_⟩; rotate_left 1; (focus (exfalso; (first | (with_reducible (cases h; done)) | (revert h; simp; done) | (revert h; simp; omega) | (revert h; simp [*]; done)))); clear h) | (refine ⟨fun h => ?_, fun h => ?_⟩; (focus (exfalso; (first | (with_reducible (cases h; done)) | (revert h; simp; done) | (revert h; simp; omega) | (revert h; simp [*]; done)))); clear h))
    refine seq_hid fun K hK => ?_
    by_cases c : data.length ≤ off
    · repeat (first | (refine ⟨fun h => ?_, fun h => ?_⟩; rotate_left 1; (focus (exfalso; (first | (with_reducible (cases h; done)) | (revert h; simp; done) | (revert h; simp; omega) | (revert h; simp [*]; done)))); clear h) | (refine ⟨fun h => ?_, fun h => ?_⟩; (focus (exfalso; (first | (with_reducible (cases h; done)) | (revert h; simp; done) | (revert h; simp; omega) | (revert h; simp [*]; done)))); clear h))
      have e : data.drop off = [] := List.drop_of_length_le c
      refine ⟨_, rdBlk 1 rfl, rfl, ?_⟩
      refine ⟨rfl, rfl, 0, rfl, rfl, Nat.le_of_ble_eq_true rfl, ?_⟩
      refine ⟨_, rdBlk 0 rfl, rfl, ?_⟩
      exact ⟨_, Ent.nil _, rdv_no (e := 3) (bool_none e) (by decide), rfl⟩
    obtain ⟨a, ha, hra⟩ := byte1 hs (i := off) (by omega)
    repeat (first | (refine ⟨fun h => ?_, fun h => ?_⟩; rotate_left 1; (focus (exfalso; (first | (with_reducible (cases h; done)) | (revert h; simp; done) | (revert h; simp; omega) | (revert h; simp [*]; done)))); clear h) | (refine ⟨fun h => ?_, fun h => ?_⟩; (focus (exfalso; (first | (with_reducible (cases h; done)) | (revert h; simp; done) | (revert h; simp; omega) | (revert h; simp [*]; done)))); clear h))
    refine ⟨by omega, by omega, a, ha, ?_⟩
    repeat (first | (refine ⟨fun h => ?_, fun h => ?_⟩; rotate_left 1; (focus (exfalso; (first | (with_reducible (cases h; done)) | (revert h; simp; done) | (revert h; simp; omega) | (revert h; simp [*]; done)))); clear h) | (refine ⟨fun h => ?_, fun h => ?_⟩; (focus (exfalso; (first | (with_reducible (cases h; done)) | (revert h; simp; done) | (revert h; simp; omega) | (revert h; simp [*]; done)))); clear h))
    refine ⟨_, .inl hra, ?_⟩
    have e : data.drop off = data.getD off 0 :: data.drop (off + 1) := by
      rw [List.drop_eq_getElem_cons (by omega), List.getD_eq_getElem?_getD, List.getElem?_eq_getElem (by omega)]; rfl
    have hrd := Kept.mk (bool_read (most := most) e)
    clear e
    generalize data.getD off 0 = b at hrd hra ⊢
    by_cases c2 : 1 < b.toNat
    · repeat (first | (refine ⟨fun h => ?_, fun h => ?_⟩; rotate_left 1; (focus (exfalso; (first | (with_reducible (cases h; done)) | (revert h; simp; done) | (revert h; simp; omega) | (revert h; simp [*]; done)))); clear h) | (refine ⟨fun h => ?_, fun h => ?_⟩; (focus (exfalso; (first | (with_reducible (cases h; done)) | (revert h; simp; done) | (revert h; simp; omega) | (revert h; simp [*]; done)))); clear h))
      replace hrd := hrd.out.1 c2
      refine ⟨_, rdBlk 1 rfl, rfl, ?_⟩
      refine ⟨rfl, rfl, 0, rfl, rfl, Nat.le_of_ble_eq_true rfl, ?_⟩
      refine ⟨_, rdBlk 0 rfl, rfl, ?_⟩
      exact ⟨_, Ent.nil _, rdv_no (e := 3) hrd (by decide), rfl⟩
    · repeat (first | (refine ⟨fun h => ?_, fun h => ?_⟩; rotate_left 1; (focus (exfalso; (first | (with_reducible (cases h; done)) | (revert h; simp; done) | (revert h; simp; omega) | (revert h; simp [*]; done)))); clear h) | (refine ⟨fun h => ?_, fun h => ?_⟩; (focus (exfalso; (first | (with_reducible (cases h; done)) | (revert h; simp; done) | (revert h; simp; omega) | (revert h; simp [*]; done)))); clear h))
      replace hrd := hrd.out.2 c2
      rw [hK.out]
      refine ⟨by omega, by omega, a, ha, ?_⟩
      refine ⟨_, .inl hra, ?_⟩
      refine ⟨rfl, rfl, 1, rfl, rfl, Nat.le_of_ble_eq_true rfl, ?_⟩
      refine ⟨_, rdBlk 1 rfl, rfl, ?_⟩
      (intro z hz; obtain rfl : z = ((off + 1 : Nat) : Int) := (by first | (rw [IntKind.wrap_i64] at hz; omega) | (rw [IntKind.wrap_u64] at hz; omega) | omega); clear hz)
      refine ⟨rfl, rfl, 0, rfl, rfl, Nat.le_of_ble_eq_true rfl, ?_⟩
      refine ⟨_, rdBlk 0 rfl, rfl, ?_⟩
      exact ⟨_, Ent.nil _, rdv_yes (nx := off + 1) hrd (by rw [List.length_drop]; omega), rfl⟩
  repeat (first | (refine ⟨fun h => ?_, fun h => ?_⟩; rotate_left 1; (focus (exfalso; (first | (with_reducible (cases h; done)) | (revert h; simp; done) | (revert h; simp; omega) | (revert h; simp [*]; done)))); clear h) | (refine ⟨fun h => ?_, fun h => ?_⟩; (focus (exfalso; (first | (with_reducible (cases h; done)) | (revert h; simp; done) | (revert h; simp; omega) | (revert h; simp [*]; done)))); clear h))
  refine ⟨[], _, refnumber_ok _ data off _ ho hd (hs.rh _), ?_⟩
  rintro _ _ ⟨⟨n, r, hdec, hrl, rfl⟩ | ⟨hdec, rfl⟩, rfl⟩
  rotate_left
  · repeat (first | (refine ⟨fun h => ?_, fun h => ?_⟩; rotate_left 1; (focus (exfalso; (first | (with_reducible (cases h; done)) | (revert h; simp; done) | (revert h; simp; omega) | (revert h; simp [*]; done)))); clear h) | (refine ⟨fun h => ?_, fun h => ?_⟩; (focus (exfalso; (first | (with_reducible (cases h; done)) | (revert h; simp; done) | (revert h; simp; omega) | (revert h; simp [*]; done)))); clear h))
    refine ⟨_, rdBlk 1 rfl, rfl, ?_⟩
    refine ⟨rfl, rfl, 0, rfl, rfl, Nat.le_of_ble_eq_true rfl, ?_⟩
    refine ⟨_, rdBlk 0 rfl, rfl, ?_⟩
    exact ⟨_, Ent.nil _, rdv_no (e := 3) (rd1_none hdec hk k3 k6) (by decide), rfl⟩
  have hn := (dec_iff.1 hdec).2
  have htl := dec_tail hdec
  repeat (first | (refine ⟨fun h => ?_, fun h => ?_⟩; rotate_left 1; (focus (exfalso; (first | (with_reducible (cases h; done)) | (revert h; simp; done) | (revert h; simp; omega) | (revert h; simp [*]; done)))); clear h) | (refine ⟨fun h => ?_, fun h => ?_⟩; (focus (exfalso; (first | (with_reducible (cases h; done)) | (revert h; simp; done) | (revert h; simp; omega) | (revert h; simp [*]; done)))); clear h))
  by_cases k1 : k = 1
  · subst k1
    have hrd := rd1_1 most (data.drop off)
    have e : uintD (data.drop off) = (0, n, r) := by unfold uintD; rw [hdec]
    rw [e] at hrd
    repeat (first | (refine ⟨fun h => ?_, fun h => ?_⟩; rotate_left 1; (focus (exfalso; (first | (with_reducible (cases h; done)) | (revert h; simp; done) | (revert h; simp; omega) | (revert h; simp [*]; done)))); clear h) | (refine ⟨fun h => ?_, fun h => ?_⟩; (focus (exfalso; (first | (with_reducible (cases h; done)) | (revert h; simp; done) | (revert h; simp; omega) | (revert h; simp [*]; done)))); clear h))
    refine ⟨rfl, rfl, 1, rfl, rfl, Nat.le_of_ble_eq_true rfl, ?_⟩
    refine ⟨_, rdBlk 1 rfl, rfl, ?_⟩
    refine ⟨rfl, rfl, 0, rfl, rfl, Nat.le_of_ble_eq_true rfl, ?_⟩
    refine ⟨_, rdBlk 0 rfl, rfl, ?_⟩
    exact ⟨_, Ent.nil _, rdv_yes (nx := data.length - r.length) hrd rfl, rfl⟩
  repeat (first | (refine ⟨fun h => ?_, fun h => ?_⟩; rotate_left 1; (focus (exfalso; (first | (with_reducible (cases h; done)) | (revert h; simp; done) | (revert h; simp; omega) | (revert h; simp [*]; done)))); clear h) | (refine ⟨fun h => ?_, fun h => ?_⟩; (focus (exfalso; (first | (with_reducible (cases h; done)) | (revert h; simp; done) | (revert h; simp; omega) | (revert h; simp [*]; done)))); clear h))
  by_cases k2 : k = 2
  · subst k2
    have hrd := rd1_2 most (data.drop off)
    have e : uintD (data.drop off) = (0, n, r) := by unfold uintD; rw [hdec]
    rw [e] at hrd
    repeat (first | (refine ⟨fun h => ?_, fun h => ?_⟩; rotate_left 1; (focus (exfalso; (first | (with_reducible (cases h; done)) | (revert h; simp; done) | (revert h; simp; omega) | (revert h; simp [*]; done)))); clear h) | (refine ⟨fun h => ?_, fun h => ?_⟩; (focus (exfalso; (first | (with_reducible (cases h; done)) | (revert h; simp; done) | (revert h; simp; omega) | (revert h; simp [*]; done)))); clear h))
    refine ⟨[], _, refUnzigzag_ok _ n hn, ?_⟩
    rintro _ _ ⟨rfl, rfl⟩
    refine ⟨rfl, rfl, 1, rfl, rfl, Nat.le_of_ble_eq_true rfl, ?_⟩
    refine ⟨_, rdBlk 1 rfl, rfl, ?_⟩
    refine ⟨rfl, rfl, 0, rfl, rfl, Nat.le_of_ble_eq_true rfl, ?_⟩
    refine ⟨_, rdBlk 0 rfl, rfl, ?_⟩
    exact ⟨_, Ent.nil _, rdv_yes (nx := data.length - r.length) hrd rfl, rfl⟩
  repeat (first | (refine ⟨fun h => ?_, fun h => ?_⟩; rotate_left 1; (focus (exfalso; (first | (with_reducible (cases h; done)) | (revert h; simp; done) | (revert h; simp; omega) | (revert h; simp [*]; done)))); clear h) | (refine ⟨fun h => ?_, fun h => ?_⟩; (focus (exfalso; (first | (with_reducible (cases h; done)) | (revert h; simp; done) | (revert h; simp; omega) | (revert h; simp [*]; done)))); clear h))
  intro z hz
  intro y hy
  obtain rfl := wr_u64 hy (by omega) (by omega)
  clear hy
  by_cases c : max most 0 < (n : Int)
  · have hk7 : k = 7 ∨ k = 4 ∨ k = 5 := by omega
    rw [← hz] at c
    repeat (first | (refine ⟨fun h => ?_, fun h => ?_⟩; rotate_left 1; (focus (exfalso; (first | (with_reducible (cases h; done)) | (revert h; simp; done) | (revert h; simp; omega) | (revert h; simp [*]; done)))); clear h) | (refine ⟨fun h => ?_, fun h => ?_⟩; (focus (exfalso; (first | (with_reducible (cases h; done)) | (revert h; simp; done) | (revert h; simp; omega) | (revert h; simp [*]; done)))); clear h))
    refine ⟨_, rdBlk 1 rfl, rfl, ?_⟩
    refine ⟨rfl, rfl, 0, rfl, rfl, Nat.le_of_ble_eq_true rfl, ?_⟩
    refine ⟨_, rdBlk 0 rfl, rfl, ?_⟩
    exact ⟨_, Ent.nil _, rdv_no (e := 2) (rd1_big hdec (by rw [← hz]; exact c) hk7) (by decide), rfl⟩
  have e : limD most (data.drop off) = (0, n, r) := by unfold limD; rw [hdec]; exact if_neg c
  rw [← hz] at c
  repeat (first | (refine ⟨fun h => ?_, fun h => ?_⟩; rotate_left 1; (focus (exfalso; (first | (with_reducible (cases h; done)) | (revert h; simp; done) | (revert h; simp; omega) | (revert h; simp [*]; done)))); clear h) | (refine ⟨fun h => ?_, fun h => ?_⟩; (focus (exfalso; (first | (with_reducible (cases h; done)) | (revert h; simp; done) | (revert h; simp; omega) | (revert h; simp [*]; done)))); clear h))
  by_cases k7 : k = 7
  · subst k7
    have hrd := rd1_7 most (data.drop off)
    rw [e] at hrd
    repeat (first | (refine ⟨fun h => ?_, fun h => ?_⟩; rotate_left 1; (focus (exfalso; (first | (with_reducible (cases h; done)) | (revert h; simp; done) | (revert h; simp; omega) | (revert h; simp [*]; done)))); clear h) | (refine ⟨fun h => ?_, fun h => ?_⟩; (focus (exfalso; (first | (with_reducible (cases h; done)) | (revert h; simp; done) | (revert h; simp; omega) | (revert h; simp [*]; done)))); clear h))
    intro x hx
    obtain rfl := wr_i64 hx (by omega) (by omega)
    clear hx
    refine ⟨rfl, rfl, 1, rfl, rfl, Nat.le_of_ble_eq_true rfl, ?_⟩
    refine ⟨_, rdBlk 1 rfl, rfl, ?_⟩
    refine ⟨rfl, rfl, 0, rfl, rfl, Nat.le_of_ble_eq_true rfl, ?_⟩
    refine ⟨_, rdBlk 0 rfl, rfl, ?_⟩
    exact ⟨_, Ent.nil _, rdv_yes (nx := data.length - r.length) hrd rfl, rfl⟩
  have hk45 : k = 4 ∨ k = 5 := by omega
  have hrd := rd1_45 hk45 most (data.drop off)
  repeat (first | (refine ⟨fun h => ?_, fun h => ?_⟩; rotate_left 1; (focus (exfalso; (first | (with_reducible (cases h; done)) | (revert h; simp; done) | (revert h; simp; omega) | (revert h; simp [*]; done)))); clear h) | (refine ⟨fun h => ?_, fun h => ?_⟩; (focus (exfalso; (first | (with_reducible (cases h; done)) | (revert h; simp; done) | (revert h; simp; omega) | (revert h; simp [*]; done)))); clear h))
  (intro z hz; obtain rfl : z = ((r.length : Nat) : Int) := (by first | (rw [IntKind.wrap_i64] at hz; omega) | (rw [IntKind.wrap_u64] at hz; omega) | omega); clear hz)
  (intro z hz; obtain rfl : z = ((r.length : Nat) : Int) := (by first | (rw [IntKind.wrap_i64] at hz; omega) | (rw [IntKind.wrap_u64] at hz; omega) | omega); clear hz)
  by_cases c2 : r.length < n
  · have e2 : blkD most (data.drop off) = (3, [], []) := by unfold blkD; rw [e, if_pos rfl, if_pos c2]
    rw [e2] at hrd
    repeat (first | (refine ⟨fun h => ?_, fun h => ?_⟩; rotate_left 1; (focus (exfalso; (first | (with_reducible (cases h; done)) | (revert h; simp; done) | (revert h; simp; omega) | (revert h; simp [*]; done)))); clear h) | (refine ⟨fun h => ?_, fun h => ?_⟩; (focus (exfalso; (first | (with_reducible (cases h; done)) | (revert h; simp; done) | (revert h; simp; omega) | (revert h; simp [*]; done)))); clear h))
    refine ⟨_, rdBlk 1 rfl, rfl, ?_⟩
    refine ⟨rfl, rfl, 0, rfl, rfl, Nat.le_of_ble_eq_true rfl, ?_⟩
    refine ⟨_, rdBlk 0 rfl, rfl, ?_⟩
    exact ⟨_, Ent.nil _, rdv_no (e := 3) (by rw [hrd]) (by decide), rfl⟩
  have e2 : blkD most (data.drop off) = (0, r.take n, r.drop n) := by unfold blkD; rw [e, if_pos rfl, if_neg c2]
  rw [e2] at hrd
  repeat (first | (refine ⟨fun h => ?_, fun h => ?_⟩; rotate_left 1; (focus (exfalso; (first | (with_reducible (cases h; done)) | (revert h; simp; done) | (revert h; simp; omega) | (revert h; simp [*]; done)))); clear h) | (refine ⟨fun h => ?_, fun h => ?_⟩; (focus (exfalso; (first | (with_reducible (cases h; done)) | (revert h; simp; done) | (revert h; simp; omega) | (revert h; simp [*]; done)))); clear h))
  (intro z hz; obtain rfl : z = ((n : Nat) : Int) := (by first | (rw [IntKind.wrap_i64] at hz; omega) | (rw [IntKind.wrap_u64] at hz; omega) | omega); clear hz)
  (intro z hz; obtain rfl : z = ((data.length - r.length + n : Nat) : Int) := (by first | (rw [IntKind.wrap_i64] at hz; omega) | (rw [IntKind.wrap_u64] at hz; omega) | omega); clear hz)
  refine ⟨data.length - r.length, data.length - r.length + n, rfl, rfl, by omega, by omega, ?_⟩
  refine ⟨r.take n, by rw [List.length_take]; omega, fun j b hb => sub_bytes (hs.rh _) (o := data.length - r.length) (m := data.length - r.length + n - (data.length - r.length)) (by omega) hc j b (by rw [htl, show data.length - r.length + n - (data.length - r.length) = n by omega]; exact hb), ?_⟩
  refine ⟨rfl, rfl, 1, rfl, rfl, Nat.le_of_ble_eq_true rfl, ?_⟩
  refine ⟨_, rdBlk 1 rfl, rfl, ?_⟩
  (intro z hz; obtain rfl : z = ((n : Nat) : Int) := (by first | (rw [IntKind.wrap_i64] at hz; omega) | (rw [IntKind.wrap_u64] at hz; omega) | omega); clear hz)
  (intro z hz; obtain rfl : z = ((data.length - r.length + n : Nat) : Int) := (by first | (rw [IntKind.wrap_i64] at hz; omega) | (rw [IntKind.wrap_u64] at hz; omega) | omega); clear hz)
  refine ⟨rfl, rfl, 0, rfl, rfl, Nat.le_of_ble_eq_true rfl, ?_⟩
  refine ⟨_, rdBlk 0 rfl, rfl, ?_⟩
  exact ⟨_, Ent.nil _, rdv_yes (nx := data.length - r.length + n) hrd (by rw [List.length_drop]; omega), rfl⟩

end Go.Proofs.Ytoddabjacjkjbaa
