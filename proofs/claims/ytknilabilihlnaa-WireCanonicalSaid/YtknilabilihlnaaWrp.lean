/-
  The law WireCanonical: what is read is encoded as the bytes that it was read from; the walk.
-/
import Derived.Test.YtknilabilihlnaaWrn
namespace Go.Proofs.Ytknilabilihlnaa
open Go Go.RowKit

theorem uintD_yes {l : List UInt8} (h : (uintD l).1 = 0) : l = num (uintD l).2.1 ++ (uintD l).2.2 := by
  unfold uintD at h ⊢
  cases hd : dec l with
  | none => rw [hd] at h; simp at h
  | some p => exact (dec_iff.1 hd).1
theorem limD_yes {most : Int} {l : List UInt8} (h : (limD most l).1 = 0) : l = num (limD most l).2.1 ++ (limD most l).2.2 := by
  unfold limD at h ⊢
  cases hd : dec l with
  | none => rw [hd] at h; simp at h
  | some p =>
    rw [hd] at h
    simp only at h ⊢
    split
    · rename_i h2; rw [if_pos h2] at h; simp at h
    · exact (dec_iff.1 hd).1
theorem blkD_yes {most : Int} {l : List UInt8} (h : (blkD most l).1 = 0) : l = num (blkD most l).2.1.length ++ (blkD most l).2.1 ++ (blkD most l).2.2 := by
  unfold blkD at h ⊢
  split at h
  · rename_i h0
    split at h
    · simp at h
    · rename_i h1
      rw [if_pos h0, if_neg h1]
      have hl := limD_yes h0
      have : ((limD most l).2.2.take (limD most l).2.1).length = (limD most l).2.1 := by rw [List.length_take]; omega
      show l = num ((limD most l).2.2.take (limD most l).2.1).length ++ (limD most l).2.2.take (limD most l).2.1 ++ (limD most l).2.2.drop (limD most l).2.1
      rw [this, List.append_assoc, List.take_append_drop]
      exact hl
  · rename_i h0; exact absurd h h0

/-- What is read is encoded as what it was read from. -/
theorem rd1_yes {k most : Int} {l : List UInt8} (hkn : knownB k = true) (h : (rd1 k most l).1 = 0) : ∃ p, enc1 (rd1 k most l).2.1 = some p ∧ l = p ++ (rd1 k most l).2.2 := by
  have hk : 1 ≤ k ∧ k ≤ 7 := by simpa [knownB] using hkn
  unfold rd1 at h ⊢
  by_cases h1 : k = 1
  · simp only [if_pos h1] at h ⊢
    exact ⟨_, by simp [enc1, h1], uintD_yes h⟩
  simp only [if_neg h1] at h ⊢
  by_cases h2 : k = 2
  · simp only [if_pos h2] at h ⊢
    refine ⟨num (uintD l).2.1, ?_, uintD_yes h⟩
    simp [enc1, h2, zig_zag]
  simp only [if_neg h2] at h ⊢
  by_cases h3 : k = 3
  · simp only [if_pos h3] at h ⊢
    cases l with
    | nil => simp [boolD] at h
    | cons b r =>
      by_cases hb : 1 < b.toNat
      · simp [boolD, hb] at h
      · refine ⟨[if decide (b.toNat = 1) = true then 1 else 0], by simp [enc1, h3, boolD, hb], ?_⟩
        simp only [boolD, if_neg hb, List.cons_append, List.nil_append, List.cons.injEq, and_true]
        apply UInt8.toNat.inj
        by_cases hb1 : b.toNat = 1
        · simp [hb1]
        · simp [hb1]; omega
  simp only [if_neg h3] at h ⊢
  by_cases h4 : k = 4 ∨ k = 5
  · simp only [if_pos h4] at h ⊢
    refine ⟨_, ?_, blkD_yes h⟩
    unfold enc1
    simp only [if_neg h1, if_neg h2, if_neg h3, if_pos h4]
  simp only [if_neg h4] at h ⊢
  by_cases h6 : k = 6
  · simp only [if_pos h6] at h ⊢
    unfold sumD at h ⊢
    split at h
    · simp at h
    · rename_i hl
      refine ⟨l.take 32, ?_, ?_⟩
      · rw [if_neg hl]
        have : (l.take 32).length = 32 := by rw [List.length_take]; omega
        unfold enc1
        simp only [if_neg h1, if_neg h2, if_neg h3, if_neg h4, if_pos h6, if_pos this]
      · rw [if_neg hl]; exact (List.take_append_drop 32 l).symm
  simp only [if_neg h6] at h ⊢
  have h7 : k = 7 := by omega
  simp only [if_pos h7] at h ⊢
  refine ⟨num (limD most l).2.1, ?_, limD_yes h⟩
  simp [enc1, h7]

theorem uintD_len (l : List UInt8) : (uintD l).2.2.length ≤ l.length := by
  unfold uintD
  split
  · simp
  · rename_i h; have := dec_len h; simp only; omega
theorem blkD_len (most : Int) (l : List UInt8) : (blkD most l).2.1.length ≤ l.length := by
  unfold blkD
  split
  · rename_i h0
    split
    · simp
    · have := congrArg List.length (limD_yes h0)
      rw [List.length_append] at this
      simp only [List.length_take]
      omega
  · simp
theorem sumD_len (l : List UInt8) : (sumD l).2.1.length ≤ l.length := by
  unfold sumD
  split
  · simp
  · simp only [List.length_take]; omega

theorem zeroI_ok {k most : Int} (h1 : -9223372036854775808 ≤ k) (h2 : k ≤ 9223372036854775807) (h3 : -9223372036854775808 ≤ most) (h4 : most ≤ 9223372036854775807) : (zeroI k most).Ok :=
  ⟨by show (0 : Nat) ≤ _; omega, by show -9223372036854775808 ≤ (0 : Int); omega, by show (0 : Int) ≤ _; omega, h1, h2, h3, h4, by show (0 : Nat) ≤ _; omega⟩

theorem rd1_ok {k most : Int} (l : List UInt8) (h1 : -9223372036854775808 ≤ k) (h2 : k ≤ 9223372036854775807) (h3 : -9223372036854775808 ≤ most) (h4 : most ≤ 9223372036854775807) (hl : l.length ≤ 1000000) :
    (rd1 k most l).2.1.Ok ∧ (rd1 k most l).2.1.s.length ≤ l.length := by
  have hu := uintD_le l
  obtain ⟨z1, z2⟩ := zag_lo hu
  have hb := blkD_len most l
  have hs := sumD_len l
  have hc := limD_le (l := l) h4
  unfold rd1
  split
  · exact ⟨⟨hu, by show -9223372036854775808 ≤ (0 : Int); omega, by show (0 : Int) ≤ _; omega, h1, h2, h3, h4, by show (0 : Nat) ≤ _; omega⟩, Nat.zero_le _⟩
  split
  · exact ⟨⟨Nat.zero_le _, z1, z2, h1, h2, h3, h4, by show (0 : Nat) ≤ _; omega⟩, Nat.zero_le _⟩
  split
  · exact ⟨⟨Nat.zero_le _, by show -9223372036854775808 ≤ (0 : Int); omega, by show (0 : Int) ≤ _; omega, h1, h2, h3, h4, by show (0 : Nat) ≤ _; omega⟩, Nat.zero_le _⟩
  split
  · exact ⟨⟨Nat.zero_le _, by show -9223372036854775808 ≤ (0 : Int); omega, by show (0 : Int) ≤ _; omega, h1, h2, h3, h4, by show (blkD most l).2.1.length ≤ _; omega⟩, hb⟩
  split
  · exact ⟨⟨Nat.zero_le _, by show -9223372036854775808 ≤ (0 : Int); omega, by show (0 : Int) ≤ _; omega, h1, h2, h3, h4, by show (sumD l).2.1.length ≤ _; omega⟩, hs⟩
  split
  · exact ⟨⟨Nat.zero_le _, by show -9223372036854775808 ≤ (((limD most l).2.1 : Nat) : Int); omega, hc, h1, h2, h3, h4, by show (0 : Nat) ≤ _; omega⟩, Nat.zero_le _⟩
  · exact ⟨zeroI_ok h1 h2 h3 h4, Nat.zero_le _⟩

theorem getI_ok {k most e : Int} (l : List UInt8) (h1 : -9223372036854775808 ≤ k) (h2 : k ≤ 9223372036854775807) (h3 : -9223372036854775808 ≤ most) (h4 : most ≤ 9223372036854775807) (hl : l.length ≤ 1000000) :
    (getI k most e l).Ok ∧ (getI k most e l).s.length ≤ l.length := by
  unfold getI
  split
  · exact rd1_ok l h1 h2 h3 h4 hl
  · exact ⟨zeroI_ok h1 h2 h3 h4, Nat.zero_le _⟩

/-- The writer has written what the reader has read. -/
def CI (data : List UInt8) (off : Nat) (e : Int) (bs : List UInt8) (we : Int) : Prop := off ≤ data.length ∧ (e = 0 → bs = data.take off ∧ we = 0)

theorem CI.step {data : List UInt8} {off last : Nat} {e : Int} {bs : List UInt8} {we k most : Int} (h : CI data off e bs we) (hkn : knownB k = true) :
    CI data (getN data (off, last, e) k most).1 (getN data (off, last, e) k most).2.2 (put1 (bs, we) (getI k most e (data.drop off))).1 (put1 (bs, we) (getI k most e (data.drop off))).2 := by
  obtain ⟨ho, h0⟩ := h
  have hk : 1 ≤ k ∧ k ≤ 7 := by simpa [knownB] using hkn
  have hk0 : ¬ k = 0 := by omega
  rw [getN, if_neg hk0]
  by_cases he : e = 0
  · subst he
    obtain ⟨rfl, rfl⟩ := h0 rfl
    rw [getI_yes hk0]
    by_cases hr : (rd1 k most (data.drop off)).1 = 0
    · obtain ⟨p, hp, hl⟩ := rd1_yes hkn hr
      have hlen := congrArg List.length hl
      rw [List.length_drop, List.length_append] at hlen
      show CI data (nxt data off last 0 _ _).1 (nxt data off last 0 _ _).2.2 _ _
      rw [nxt, if_pos rfl, hr, if_pos rfl, put_some hp, if_pos rfl]
      refine ⟨Nat.sub_le _ _, fun _ => ⟨?_, rfl⟩⟩
      have : data.length - (rd1 k most (data.drop off)).2.2.length = off + p.length := by omega
      show data.take off ++ p = data.take (data.length - (rd1 k most (data.drop off)).2.2.length)
      rw [this, List.take_add]
      congr 1
      rw [hl, List.take_left]
    · show CI data (nxt data off last 0 _ _).1 (nxt data off last 0 _ _).2.2 _ _
      rw [nxt, if_pos rfl, if_neg hr]
      exact ⟨ho, fun h => absurd h hr⟩
  · show CI data (nxt data off last e _ _).1 (nxt data off last e _ _).2.2 _ _
    rw [nxt, if_neg he]
    exact ⟨ho, fun h => absurd h he⟩

set_option maxRecDepth 100000 in
set_option maxHeartbeats 16000000 in
theorem WireCanonical_ok (R : Rd) (v w : Value) (data : List UInt8) (l : List Item) (hoks : ∀ x ∈ l, x.Ok) (hds : BsR R v data) (hs : ItemsR R w l) :
    Fn Try.prog 12 [v, w] [] R (fun v _ => v = .bool true) := by
  obtain ⟨B0, cap1, rfl⟩ := hds.form
  obtain ⟨A0, cap0, rfl⟩ := hs.form
  refine fn_of_vc mixed tabOk Try.func12 rfl (by kernel_rfl) (Nat.le_of_ble_eq_true rfl) ?_
  refine ⟨[], _, awake_ok _, ?_⟩
  rintro v' h' ⟨rfl, rfl⟩
  repeat (focus (refine ⟨fun h => ?_, fun h => ?_⟩; first | (focus (exfalso; first | (simp at h; done) | exact absurd (of_decide_eq_true h) (by assumption) | exact absurd (by assumption) (of_decide_eq_false h))) | (rotate_left; focus (exfalso; first | (simp at h; done) | exact absurd (of_decide_eq_true h) (by assumption) | exact absurd (by assumption) (of_decide_eq_false h))) | (focus (exfalso; simp at h; omega)) | (rotate_left; focus (exfalso; simp at h; omega)); clear h))
  by_cases hd : 1000 < data.length
  · repeat (focus (refine ⟨fun h => ?_, fun h => ?_⟩; first | (focus (exfalso; first | (simp at h; done) | exact absurd (of_decide_eq_true h) (by assumption) | exact absurd (by assumption) (of_decide_eq_false h))) | (rotate_left; focus (exfalso; first | (simp at h; done) | exact absurd (of_decide_eq_true h) (by assumption) | exact absurd (by assumption) (of_decide_eq_false h))) | (focus (exfalso; simp at h; omega)) | (rotate_left; focus (exfalso; simp at h; omega)); clear h))
    exact ⟨_, Ent.nil _, rfl⟩
  by_cases hl : 40 < l.length
  · repeat (focus (refine ⟨fun h => ?_, fun h => ?_⟩; first | (focus (exfalso; first | (simp at h; done) | exact absurd (of_decide_eq_true h) (by assumption) | exact absurd (by assumption) (of_decide_eq_false h))) | (rotate_left; focus (exfalso; first | (simp at h; done) | exact absurd (of_decide_eq_true h) (by assumption) | exact absurd (by assumption) (of_decide_eq_false h))) | (focus (exfalso; simp at h; omega)) | (rotate_left; focus (exfalso; simp at h; omega)); clear h))
    exact ⟨_, Ent.nil _, rfl⟩
  repeat (focus (refine ⟨fun h => ?_, fun h => ?_⟩; first | (focus (exfalso; first | (simp at h; done) | exact absurd (of_decide_eq_true h) (by assumption) | exact absurd (by assumption) (of_decide_eq_false h))) | (rotate_left; focus (exfalso; first | (simp at h; done) | exact absurd (of_decide_eq_true h) (by assumption) | exact absurd (by assumption) (of_decide_eq_false h))) | (focus (exfalso; simp at h; omega)) | (rotate_left; focus (exfalso; simp at h; omega)); clear h))
  refine ⟨[], _, NewReader_ok _ _ data (by omega) (hds.rh _), ?_⟩
  rintro v' h' ⟨g, rfl, A, k, cap, xs, rfl, hk, hx, hg⟩
  refine ⟨[], _, NewWriter_ok _, ?_⟩
  rintro v' h' ⟨g2, rfl, A2, k2, cap2, xs2, rfl, hk2, hx2, hg2⟩
  refine ⟨[7, 25, 26, 27, 28, 29, 30, 31, 32, 33, 34, 35, 36, 37, 38, 39, 40, 41, 42, 43, 44, 45, 46, 47, 48, 49, 50], [7],
    Nat × (Nat × Nat × Int) × (List UInt8 × Int) × (Option Addr × Nat × Nat × List Value) × Option Addr × Nat × Nat × List Value,
    fun ⟨i, st, ws, ⟨A, k, _, xs⟩, A2, k2, _, xs2⟩ => i ≤ l.length ∧ CI data st.1 st.2.2 ws.1 ws.2 ∧ ws.1.length ≤ i * 1010 ∧ (k = data.length ∧ xs = BV data ∧ grow k A) ∧ k2 = ws.1.length ∧ xs2 = BV ws.1 ∧ grow k2 A2,
    fun ⟨i, _, _, _, _, _, _, _⟩ => [.int .i64 i],
    fun ⟨_, st, ws, ⟨A, k, cap, xs⟩, A2, k2, cap2, xs2⟩ => [.blk g 70 [.slice A k cap, .int .i64 st.1, .int .i64 st.2.1, .int .i64 st.2.2], .row A k cap 5 1 xs (0, 0), .blk g2 68 [.slice A2 k2 cap2, .int .i64 ws.2], .row A2 k2 cap2 5 1 xs2 (0, 0)],
    fun ⟨i, _, _, _, _, _, _, _⟩ => l.length - i, (0, (0, 0, 0), ([], 0), (A, k, cap, xs), A2, k2, cap2, xs2), ⟨by omega, ⟨Nat.zero_le _, fun _ => ⟨rfl, rfl⟩⟩, by simp, ⟨hk, hx, hg⟩, hk2, hx2, hg2⟩, ⟨rfl, trivial⟩, Ent.refl _, ?_⟩
  clear hk hx hg hk2 hx2 hg2
  rintro ⟨i, ⟨off, last, e⟩, ⟨bs, we⟩, ⟨A, k, cap, xs⟩, A2, k2, cap2, xs2⟩ ⟨hi, hC, hlen, ⟨hk, hx, hg⟩, hk2, hx2, hg2⟩ js
  have hC : CI data off e bs we := hC
  have ho := hC.1
  have hlen : bs.length ≤ i * 1010 := hlen
  refine ⟨fun hb => ?_, fun hb => ?_⟩
  · replace hb := of_decide_eq_true hb
    have h1 : i < l.length := by omega
    obtain ⟨c, rfl, hRa⟩ := hs.at_ (List.getElem?_eq_getElem h1)
    have hget : l[i]? = some l[i] := List.getElem?_eq_getElem h1
    have hok := hoks _ (List.getElem_mem h1)
    generalize l[i] = x at hRa hget hok
    refine ⟨by omega, by omega, c, rfl, ?_⟩
    refine ⟨_, ro (fld (hRa 0 _ rfl)), ?_⟩
    refine ⟨[], _, Known_ok _ x.k, ?_⟩
    rintro v' h' ⟨rfl, rfl⟩
    cases hkn : knownB x.k
    · repeat (focus (refine ⟨fun h => ?_, fun h => ?_⟩; first | (focus (exfalso; first | (simp at h; done) | exact absurd (of_decide_eq_true h) (by assumption) | exact absurd (by assumption) (of_decide_eq_false h))) | (rotate_left; focus (exfalso; first | (simp at h; done) | exact absurd (of_decide_eq_true h) (by assumption) | exact absurd (by assumption) (of_decide_eq_false h))) | (focus (exfalso; simp at h; omega)) | (rotate_left; focus (exfalso; simp at h; omega)); clear h))
      (intro z hz; obtain rfl := wr_i64 hz (by omega) (by omega); clear hz)
      exact ⟨rfl, (i + 1, (off, last, e), (bs, we), (A, k, cap, xs), A2, k2, cap2, xs2), ⟨by omega, hC, by show bs.length ≤ _; omega, ⟨hk, hx, hg⟩, hk2, hx2, hg2⟩, by show l.length - (i + 1) < l.length - i; omega, ⟨rfl, trivial⟩, Ent.refl _, rfl⟩
    repeat (focus (refine ⟨fun h => ?_, fun h => ?_⟩; first | (focus (exfalso; first | (simp at h; done) | exact absurd (of_decide_eq_true h) (by assumption) | exact absurd (by assumption) (of_decide_eq_false h))) | (rotate_left; focus (exfalso; first | (simp at h; done) | exact absurd (of_decide_eq_true h) (by assumption) | exact absurd (by assumption) (of_decide_eq_false h))) | (focus (exfalso; simp at h; omega)) | (rotate_left; focus (exfalso; simp at h; omega)); clear h))
    refine ⟨[], (.q 0 (.q 1 (.q 2 (.q 3 (.q 4 (.q 5 (.q 6 (.q 7 (.q 8 (.q 9 (.q 10 (.q 11 (.one 12 (.one 13 .nil)))))))))))))), by kernel_rfl, ?_⟩
    refine ⟨by omega, by omega, c, rfl, ?_⟩
    refine ⟨_, ro (fld (hRa 0 _ rfl)), ?_⟩
    refine ⟨by omega, by omega, c, rfl, ?_⟩
    refine ⟨_, ro (fld (hRa 5 _ rfl)), ?_⟩
    refine ⟨[0, 0], _, get_ok _ g data off last e _ x.k x.m hok.m2 (.inr hkn) ho (by omega) ⟨A, k, cap, xs, rfl, hk, hx, hg⟩, ?_⟩
    clear hk hx hg
    rintro v' h' ⟨rfl, A, k, cap, xs, rfl, hk, hx, hg⟩
    have hdl : (data.drop off).length ≤ 1000 := by rw [List.length_drop]; omega
    obtain ⟨iok, isl⟩ := getI_ok (e := e) (data.drop off) hok.k1 hok.k2 hok.m1 hok.m2 (by omega)
    have hCs := hC.step (last := last) (most := x.m) hkn
    have hpl := put1_len iok (bs, we)
    refine ⟨[0, 0], _, put_ok _ g2 bs we _ (getI x.k x.m e (data.drop off)) iok (by omega) (by omega) ⟨A2, k2, cap2, xs2, rfl, hk2, hx2, hg2⟩, ?_⟩
    clear hk2 hx2 hg2
    rintro v' h' ⟨A2, k2, cap2, xs2, rfl, hk2, hx2, hg2⟩
    (intro z hz; obtain rfl := wr_i64 hz (by omega) (by omega); clear hz)
    exact ⟨rfl, (i + 1, getN data (off, last, e) x.k x.m, put1 (bs, we) (getI x.k x.m e (data.drop off)), (A, k, cap, xs), A2, k2, cap2, xs2), ⟨by omega, hCs, by have hpl' : (put1 (bs, we) (getI x.k x.m e (data.drop off))).1.length ≤ bs.length + (getI x.k x.m e (data.drop off)).s.length + 10 := hpl; show (put1 (bs, we) (getI x.k x.m e (data.drop off))).1.length ≤ _; omega, ⟨hk, hx, hg⟩, hk2, hx2, hg2⟩, by show l.length - (i + 1) < l.length - i; omega, ⟨rfl, trivial⟩, Ent.refl _, rfl⟩
  · replace hb := of_decide_eq_false hb
    refine ⟨[0, 0], _, REnd_ok _ g data off last e _ ⟨A, k, cap, xs, rfl, hk, hx, hg⟩, ?_⟩
    clear hk hx hg
    rintro v' h' ⟨rfl, A, k, cap, xs, rfl, hk, hx, hg⟩
    by_cases hend : endE data off e = 0
    rotate_left
    · repeat (focus (refine ⟨fun h => ?_, fun h => ?_⟩; first | (focus (exfalso; first | (simp at h; done) | exact absurd (of_decide_eq_true h) (by assumption) | exact absurd (by assumption) (of_decide_eq_false h))) | (rotate_left; focus (exfalso; first | (simp at h; done) | exact absurd (of_decide_eq_true h) (by assumption) | exact absurd (by assumption) (of_decide_eq_false h))) | (focus (exfalso; simp at h; omega)) | (rotate_left; focus (exfalso; simp at h; omega)); clear h))
      refine ⟨_, Ent.nil _, ?_⟩
      show Value.bool (decide _) = _
      rw [decide_eq_true (by omega)]
    repeat (focus (refine ⟨fun h => ?_, fun h => ?_⟩; first | (focus (exfalso; first | (simp at h; done) | exact absurd (of_decide_eq_true h) (by assumption) | exact absurd (by assumption) (of_decide_eq_false h))) | (rotate_left; focus (exfalso; first | (simp at h; done) | exact absurd (of_decide_eq_true h) (by assumption) | exact absurd (by assumption) (of_decide_eq_false h))) | (focus (exfalso; simp at h; omega)) | (rotate_left; focus (exfalso; simp at h; omega)); clear h))
    have he : e = 0 ∧ off = data.length := by
      unfold endE at hend
      split at hend
      · split at hend
        · cases hend
        · exact ⟨‹_›, by omega⟩
      · contradiction
    obtain ⟨rfl, rfl⟩ := he
    obtain ⟨rfl, rfl⟩ := hC.2 rfl
    rw [List.take_length] at hk2 hx2
    refine ⟨[0, 0], _, WDone_ok _ g2 data 0 _ ⟨A2, k2, cap2, xs2, rfl, hk2, hx2, hg2⟩, ?_⟩
    rintro v' h' ⟨s, hw, hs', rfl, rfl, ⟨A5, k5, cap5, xs5, rfl, -, -, -⟩, ⟨A3, k3, cap3, xs3, rfl, rfl, hk3, hx3, hg3⟩⟩
    have e1 : doneB data 0 = data := by rw [doneB, if_pos ⟨rfl, by omega⟩]
    have e2 : doneE data 0 = 0 := by rw [doneE, if_pos rfl, if_pos (by omega)]
    rw [e1] at hk3 hx3
    rw [e2]
    repeat (focus (refine ⟨fun h => ?_, fun h => ?_⟩; first | (focus (exfalso; first | (simp at h; done) | exact absurd (of_decide_eq_true h) (by assumption) | exact absurd (by assumption) (of_decide_eq_false h))) | (rotate_left; focus (exfalso; first | (simp at h; done) | exact absurd (of_decide_eq_true h) (by assumption) | exact absurd (by assumption) (of_decide_eq_false h))) | (focus (exfalso; simp at h; omega)) | (rotate_left; focus (exfalso; simp at h; omega)); clear h))
    refine ⟨[], _, same_ok _ _ _ data data (hds.rh _) (BsR.own 4 rfl hk3 hx3 hg3) (by omega), ?_⟩
    rintro v' h' ⟨rfl, rfl⟩
    repeat (focus (refine ⟨fun h => ?_, fun h => ?_⟩; first | (focus (exfalso; first | (simp at h; done) | exact absurd (of_decide_eq_true h) (by assumption) | exact absurd (by assumption) (of_decide_eq_false h))) | (rotate_left; focus (exfalso; first | (simp at h; done) | exact absurd (of_decide_eq_true h) (by assumption) | exact absurd (by assumption) (of_decide_eq_false h))) | (focus (exfalso; simp at h; omega)) | (rotate_left; focus (exfalso; simp at h; omega)); clear h))
    refine ⟨_, Ent.nil _, ?_⟩
    first | rfl | (show Value.bool (decide _) = _; simp)

theorem WireCanonical_law (R : Rd) (v0 v1 : Value) (s0 : SeenV R (.sl 1 (.int .u8)) v0) (s1 : SeenV R (.sl 6 ItemShp) v1) :
    Fn Try.prog 12 [v0, v1] [] R (fun v _ => v = .bool true) := by
  obtain ⟨data, _, hd⟩ := s0.bytes
  obtain ⟨l, hok, _, hs⟩ := s1.items
  exact WireCanonical_ok R v0 v1 data l hok hd hs

end Go.Proofs.Ytknilabilihlnaa
