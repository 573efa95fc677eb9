/-
  The law WireReturns: what is written is read; the walk.
-/
import Derived.Test.YtknilabilihlnaaWrn
import Derived.Test.YtknilabilihlnaaWrl
namespace Go.Proofs.Ytknilabilihlnaa
open Go Go.RowKit

theorem uintD_num {n : Nat} (h : n ≤ 18446744073709551615) (r : List UInt8) : uintD (num n ++ r) = (0, n, r) := by
  rw [uintD, dec_iff.2 ⟨rfl, h⟩]
theorem limD_num {n : Nat} (h : n ≤ 18446744073709551615) (r : List UInt8) {most : Int} (hm : (n : Int) ≤ most) : limD most (num n ++ r) = (0, n, r) := by
  rw [limD, dec_iff.2 ⟨rfl, h⟩]
  simp only
  rw [if_neg (by omega)]
theorem blkD_num {s : List UInt8} (h : s.length ≤ 9223372036854775807) (r : List UInt8) {most : Int} (hm : (s.length : Int) ≤ most) : blkD most (num s.length ++ s ++ r) = (0, s, r) := by
  rw [List.append_assoc, blkD, limD_num (by omega) _ hm]
  simp

/-- What a value's encoding is read as. -/
theorem rd1_enc {x : Item} (hx : x.Ok) (hkn : knownB x.k = true) {p : List UInt8} (he : enc1 x = some p) (r : List UInt8) {most : Int} (hm1 : x.n ≤ most) (hm2 : (x.s.length : Int) ≤ most) :
    (rd1 x.k most (p ++ r)).1 = 0 ∧ (rd1 x.k most (p ++ r)).2.2 = r ∧ (x.k = 1 → (rd1 x.k most (p ++ r)).2.1.u = x.u) ∧ (x.k = 2 ∨ x.k = 7 → (rd1 x.k most (p ++ r)).2.1.n = x.n) ∧ (x.k = 3 → (rd1 x.k most (p ++ r)).2.1.b = x.b) ∧
      (x.k = 4 ∨ x.k = 5 ∨ x.k = 6 → (rd1 x.k most (p ++ r)).2.1.s = x.s) := by
  have hk : 1 ≤ x.k ∧ x.k ≤ 7 := by simpa [knownB] using hkn
  have hzp := zig_le hx.n1 hx.n2
  have hzn := zig_nonneg x.n
  have hn2 := hx.n2
  have hs := hx.s
  unfold enc1 at he
  unfold rd1
  by_cases h1 : x.k = 1
  · rw [if_pos h1] at he; cases he
    simp only [if_pos h1, uintD_num hx.u]
    exact ⟨trivial, trivial, fun _ => trivial, fun h => by omega, fun h => by omega, fun h => by omega⟩
  rw [if_neg h1] at he
  simp only [if_neg h1]
  by_cases h2 : x.k = 2
  · rw [if_pos h2] at he; cases he
    simp only [if_pos h2, uintD_num (n := (zig x.n).toNat) (by omega), zag_zig]
    exact ⟨trivial, trivial, fun h => by omega, fun _ => trivial, fun h => by omega, fun h => by omega⟩
  rw [if_neg h2] at he
  simp only [if_neg h2]
  by_cases h3 : x.k = 3
  · rw [if_pos h3] at he; cases he
    simp only [if_pos h3]
    cases x.b
    · exact ⟨rfl, rfl, fun h => by omega, fun h => by omega, fun _ => rfl, fun h => by omega⟩
    · exact ⟨rfl, rfl, fun h => by omega, fun h => by omega, fun _ => rfl, fun h => by omega⟩
  rw [if_neg h3] at he
  simp only [if_neg h3]
  by_cases h4 : x.k = 4 ∨ x.k = 5
  · rw [if_pos h4] at he; cases he
    simp only [if_pos h4, blkD_num hs r hm2]
    exact ⟨trivial, trivial, fun h => by omega, fun h => by omega, fun h => by omega, fun _ => trivial⟩
  rw [if_neg h4] at he
  simp only [if_neg h4]
  by_cases h6 : x.k = 6
  · rw [if_pos h6] at he
    simp only [if_pos h6]
    split at he
    · rename_i h32
      cases he
      have : sumD (x.s ++ r) = (0, x.s, r) := by
        rw [sumD, if_neg (by rw [List.length_append]; omega), ← h32]
        simp
      rw [this]
      exact ⟨rfl, rfl, fun h => by omega, fun h => by omega, fun h => by omega, fun _ => rfl⟩
    · cases he
  rw [if_neg h6] at he
  simp only [if_neg h6]
  have h7 : x.k = 7 := by omega
  rw [if_pos h7] at he
  simp only [if_pos h7]
  split at he
  · cases he
  · rename_i hneg
    cases he
    rw [limD_num (by omega) r (by omega)]
    exact ⟨rfl, rfl, fun h => by omega, fun _ => by show ((x.n.toNat : Nat) : Int) = x.n; omega, fun h => by omega, fun h => by omega⟩

theorem encL_drop {l : List Item} {i : Nat} {x : Item} (hget : l[i]? = some x) {y : List UInt8} (h : encL (l.drop i) = some y) : ∃ p r, enc1 x = some p ∧ encL (l.drop (i + 1)) = some r ∧ y = p ++ r := by
  obtain ⟨hi, he⟩ := List.getElem?_eq_some_iff.1 hget
  rw [List.drop_eq_getElem_cons hi, he, encL] at h
  split at h
  · rename_i p r hp hr
    cases h
    exact ⟨p, r, hp, hr, rfl⟩
  · cases h

theorem doneE_zero {l : List Item} (h : doneE (encS l).1 (encS l).2 = 0) : (encS l).2 = 0 ∧ doneB (encS l).1 (encS l).2 = (encS l).1 ∧ (encS l).1.length ≤ 1048576 := by
  unfold doneE at h
  split at h
  · rename_i h0
    split at h
    · rename_i h00
      exact ⟨h0, by rw [doneB, if_pos ⟨h0, h00⟩], h00⟩
    · cases h
  · contradiction

set_option maxRecDepth 100000 in
set_option maxHeartbeats 16000000 in
theorem WireReturns_ok (R : Rd) (v : Value) (l : List Item) (hoks : ∀ x ∈ l, x.Ok) (hll : l.length ≤ 9223372036854775807) (hs : ItemsR R v l) :
    Fn Try.prog 11 [v] [] R (fun v _ => v = .bool true) := by
  obtain ⟨A0, cap0, rfl⟩ := hs.form
  refine fn_of_vc mixed tabOk Try.func11 rfl (by kernel_rfl) (Nat.le_of_ble_eq_true rfl) ?_
  refine ⟨[], _, awake_ok _, ?_⟩
  rintro v' h' ⟨rfl, rfl⟩
  repeat (focus (refine ⟨fun h => ?_, fun h => ?_⟩; first | (focus (exfalso; first | (simp at h; done) | exact absurd (of_decide_eq_true h) (by assumption) | exact absurd (by assumption) (of_decide_eq_false h))) | (rotate_left; focus (exfalso; first | (simp at h; done) | exact absurd (of_decide_eq_true h) (by assumption) | exact absurd (by assumption) (of_decide_eq_false h))) | (focus (exfalso; simp at h; omega)) | (rotate_left; focus (exfalso; simp at h; omega)); clear h))
  refine ⟨[], _, small_ok _ _ l hll (hs.mono fun _ _ => .inl), ?_⟩
  rintro v' h' ⟨rfl, rfl⟩
  cases hsm : smallB l
  · repeat (focus (refine ⟨fun h => ?_, fun h => ?_⟩; first | (focus (exfalso; first | (simp at h; done) | exact absurd (of_decide_eq_true h) (by assumption) | exact absurd (by assumption) (of_decide_eq_false h))) | (rotate_left; focus (exfalso; first | (simp at h; done) | exact absurd (of_decide_eq_true h) (by assumption) | exact absurd (by assumption) (of_decide_eq_false h))) | (focus (exfalso; simp at h; omega)) | (rotate_left; focus (exfalso; simp at h; omega)); clear h))
    exact ⟨_, Ent.nil _, rfl⟩
  repeat (focus (refine ⟨fun h => ?_, fun h => ?_⟩; first | (focus (exfalso; first | (simp at h; done) | exact absurd (of_decide_eq_true h) (by assumption) | exact absurd (by assumption) (of_decide_eq_false h))) | (rotate_left; focus (exfalso; first | (simp at h; done) | exact absurd (of_decide_eq_true h) (by assumption) | exact absurd (by assumption) (of_decide_eq_false h))) | (focus (exfalso; simp at h; omega)) | (rotate_left; focus (exfalso; simp at h; omega)); clear h))
  refine ⟨[], _, encoded_ok _ _ l hoks hsm (hs.mono fun _ _ => .inl), ?_⟩
  rintro v' h' ⟨s, rfl, A1, k1, cap1, xs1, rfl, rfl, hk1, hx1, hg1⟩
  by_cases he1 : doneE (encS l).1 (encS l).2 = 0
  rotate_left
  · repeat (focus (refine ⟨fun h => ?_, fun h => ?_⟩; first | (focus (exfalso; first | (simp at h; done) | exact absurd (of_decide_eq_true h) (by assumption) | exact absurd (by assumption) (of_decide_eq_false h))) | (rotate_left; focus (exfalso; first | (simp at h; done) | exact absurd (of_decide_eq_true h) (by assumption) | exact absurd (by assumption) (of_decide_eq_false h))) | (focus (exfalso; simp at h; omega)) | (rotate_left; focus (exfalso; simp at h; omega)); clear h))
    exact ⟨_, Ent.nil _, rfl⟩
  repeat (focus (refine ⟨fun h => ?_, fun h => ?_⟩; first | (focus (exfalso; first | (simp at h; done) | exact absurd (of_decide_eq_true h) (by assumption) | exact absurd (by assumption) (of_decide_eq_false h))) | (rotate_left; focus (exfalso; first | (simp at h; done) | exact absurd (of_decide_eq_true h) (by assumption) | exact absurd (by assumption) (of_decide_eq_false h))) | (focus (exfalso; simp at h; omega)) | (rotate_left; focus (exfalso; simp at h; omega)); clear h))
  obtain ⟨z1, d1, l1⟩ := doneE_zero he1
  have hL := encS_of z1
  rw [d1] at hk1 hx1
  clear he1 z1 d1
  rw [smallB, Bool.and_eq_true] at hsm
  have hl40 : l.length ≤ 40 := of_decide_eq_true hsm.2
  have hall : ∀ x ∈ l, x.s.length ≤ 400 := fun x hx => of_decide_eq_true (List.all_eq_true.1 hsm.1 x hx)
  generalize (encS l).1 = data at hk1 hx1 hL l1
  refine ⟨[], _, NewReader_ok _ _ data (by omega) (BsR.own 0 rfl hk1 hx1 hg1), ?_⟩
  rintro v' h' ⟨g, rfl, A, k, cap, xs, rfl, hk, hx, hg⟩
  refine ⟨[2, 6, 7, 8, 25, 26, 27, 28, 29, 30, 31, 32, 33, 34, 35, 36, 37, 38, 39, 40, 41, 42, 43, 44, 45, 46, 47, 48, 49, 50, 51, 52, 53, 54, 55, 56, 57, 58, 59, 60, 61, 62, 63, 64, 65, 66, 67, 68, 69, 70, 71, 72, 73, 74, 75, 76, 77], [6],
    Nat × Nat × Nat × Option Addr × Nat × Nat × List Value,
    fun ⟨i, off, _, A, k, _, xs⟩ => i ≤ l.length ∧ off ≤ data.length ∧ encL (l.drop i) = some (data.drop off) ∧ k = data.length ∧ xs = BV data ∧ grow k A,
    fun ⟨i, _, _, _, _, _, _⟩ => [.int .i64 i],
    fun ⟨_, off, last, A, k, cap, xs⟩ => [.blk g 70 [.slice A k cap, .int .i64 off, .int .i64 last, .int .i64 0], .row A k cap 5 1 xs (0, 0)],
    fun ⟨i, _, _, _, _, _, _⟩ => l.length - i, (0, 0, 0, A, k, cap, xs), ⟨by omega, by omega, hL, hk, hx, hg⟩, ⟨rfl, trivial⟩, Ent.dropr [_] _, ?_⟩
  clear hk hx hg
  rintro ⟨i, off, last, A, k, cap, xs⟩ ⟨hi, ho, hD, hk, hx, hg⟩ js
  refine ⟨fun hb => ?_, fun hb => ?_⟩
  · replace hb := of_decide_eq_true hb
    have h1 : i < l.length := by omega
    obtain ⟨c, rfl, hRa⟩ := hs.at_ (List.getElem?_eq_getElem h1)
    have hget : l[i]? = some l[i] := List.getElem?_eq_getElem h1
    have hmem : l[i] ∈ l := List.getElem_mem h1
    have hok := hoks _ hmem
    have h400 := hall _ hmem
    generalize l[i] = x at hRa hget hok h400
    clear hmem
    have hn2 := hok.n2
    obtain ⟨p, r, hp, hr, hdr⟩ := encL_drop hget hD
    have hlen : data.length - off = p.length + r.length := by rw [← List.length_drop, hdr, List.length_append]
    refine ⟨by omega, by omega, c, rfl, ?_⟩
    refine ⟨x.cells, rdn fun j u hu => ro (hRa j u hu), rfl, ?_⟩
    intro g2
    refine ⟨rfl, rfl, 2, rfl, rfl, Nat.le_of_ble_eq_true rfl, ?_⟩
    refine ⟨_, ld 2 rfl rfl, ?_⟩
    refine ⟨[], _, Known_ok _ x.k, ?_⟩
    rintro v' h' ⟨rfl, rfl⟩
    cases hkn : knownB x.k
    · repeat (focus (refine ⟨fun h => ?_, fun h => ?_⟩; first | (focus (exfalso; first | (simp at h; done) | exact absurd (of_decide_eq_true h) (by assumption) | exact absurd (by assumption) (of_decide_eq_false h))) | (rotate_left; focus (exfalso; first | (simp at h; done) | exact absurd (of_decide_eq_true h) (by assumption) | exact absurd (by assumption) (of_decide_eq_false h))) | (focus (exfalso; simp at h; omega)) | (rotate_left; focus (exfalso; simp at h; omega)); clear h))
      (intro z hz; obtain rfl := wr_i64 hz (by omega) (by omega); clear hz)
      have hpn : p = [] := by
        have : ¬ (1 ≤ x.k ∧ x.k ≤ 7) := by
          intro h
          rw [knownB, decide_eq_true h.1, decide_eq_true h.2] at hkn
          cases hkn
        have : enc1 x = some [] := by
          unfold enc1
          rw [if_neg (by omega), if_neg (by omega), if_neg (by omega), if_neg (by omega), if_neg (by omega), if_neg (by omega)]
        rw [this] at hp
        cases hp; rfl
      exact ⟨rfl, (i + 1, off, last, A, k, cap, xs), ⟨by omega, ho, by rw [hr, hdr, hpn, List.nil_append], hk, hx, hg⟩, by show l.length - (i + 1) < l.length - i; omega, ⟨rfl, trivial⟩, Ent.drop [_, _] [_], rfl⟩
    repeat (focus (refine ⟨fun h => ?_, fun h => ?_⟩; first | (focus (exfalso; first | (simp at h; done) | exact absurd (of_decide_eq_true h) (by assumption) | exact absurd (by assumption) (of_decide_eq_false h))) | (rotate_left; focus (exfalso; first | (simp at h; done) | exact absurd (of_decide_eq_true h) (by assumption) | exact absurd (by assumption) (of_decide_eq_false h))) | (focus (exfalso; simp at h; omega)) | (rotate_left; focus (exfalso; simp at h; omega)); clear h))
    refine ⟨_, ld 2 rfl rfl, ?_⟩
    refine ⟨_, ld 2 rfl rfl, ?_⟩
    refine ⟨_, ld 2 rfl rfl, ?_⟩
    intro most hmost
    have hmost : most = max x.n (x.s.length : Int) := hmost
    have hm1 : x.n ≤ most := by omega
    have hm2 : (x.s.length : Int) ≤ most := by omega
    refine ⟨[0, 0], _, get_ok _ g data off last 0 _ x.k most (by omega) ho (by omega) ⟨A, k, cap, xs, rfl, hk, hx, hg⟩, ?_⟩
    clear hk hx hg
    have hk7 : 1 ≤ x.k ∧ x.k ≤ 7 := by simpa [knownB] using hkn
    obtain ⟨e1, e2, f1, f2, f3, f4⟩ := rd1_enc hok hkn hp r hm1 hm2
    rw [← hdr] at e1 e2 f1 f2 f3 f4
    rintro v' h' ⟨rfl, hR'⟩
    rw [getN, if_neg (by show ¬ x.k = 0; omega), if_pos hkn, e1, e2, nxt, if_pos rfl, if_pos rfl] at hR'
    rw [getI_yes (by omega)]
    generalize (rd1 x.k most (data.drop off)).2.1 = u at f1 f2 f3 f4
    obtain ⟨A, k, cap, xs, rfl, hk, hx, hg⟩ := hR'
    have hnext : (i + 1 ≤ l.length) ∧ (data.length - r.length ≤ data.length) ∧ encL (l.drop (i + 1)) = some (data.drop (data.length - r.length)) := by
      refine ⟨by omega, by omega, ?_⟩
      rw [hr]
      have : data.drop (data.length - r.length) = (data.drop off).drop p.length := by
        rw [List.drop_drop]; congr 1; omega
      rw [this, hdr, List.drop_left]
    obtain ⟨q1, q2, q3⟩ := hnext
    clear hdr hD hRa hlen
    intro g3
    refine ⟨rfl, rfl, 3, rfl, rfl, Nat.le_of_ble_eq_true rfl, ?_⟩
    refine ⟨_, ld 0 rfl rfl, ?_⟩
    by_cases k1' : x.k = 1
    · repeat (focus (refine ⟨fun h => ?_, fun h => ?_⟩; first | (focus (exfalso; first | (simp at h; done) | exact absurd (of_decide_eq_true h) (by assumption) | exact absurd (by assumption) (of_decide_eq_false h))) | (rotate_left; focus (exfalso; first | (simp at h; done) | exact absurd (of_decide_eq_true h) (by assumption) | exact absurd (by assumption) (of_decide_eq_false h))) | (focus (exfalso; simp at h; omega)) | (rotate_left; focus (exfalso; simp at h; omega)); clear h))
      refine ⟨_, ld 3 rfl rfl, ?_⟩
      refine ⟨_, ld 0 rfl rfl, ?_⟩
      rw [f1 k1']
      repeat (focus (refine ⟨fun h => ?_, fun h => ?_⟩; first | (focus (exfalso; first | (simp at h; done) | exact absurd (of_decide_eq_true h) (by assumption) | exact absurd (by assumption) (of_decide_eq_false h))) | (rotate_left; focus (exfalso; first | (simp at h; done) | exact absurd (of_decide_eq_true h) (by assumption) | exact absurd (by assumption) (of_decide_eq_false h))) | (focus (exfalso; simp at h; omega)) | (rotate_left; focus (exfalso; simp at h; omega)); clear h))
      (intro z hz; obtain rfl := wr_i64 hz (by omega) (by omega); clear hz)
      exact ⟨rfl, (i + 1, data.length - r.length, off, A, k, cap, xs), ⟨q1, q2, q3, hk, hx, hg⟩, by show l.length - (i + 1) < l.length - i; omega, ⟨rfl, trivial⟩, (Ent.dropr [_] _).trans (Ent.drop [_, _] [_]), rfl⟩
    by_cases k2' : x.k = 2
    · repeat (focus (refine ⟨fun h => ?_, fun h => ?_⟩; first | (focus (exfalso; first | (simp at h; done) | exact absurd (of_decide_eq_true h) (by assumption) | exact absurd (by assumption) (of_decide_eq_false h))) | (rotate_left; focus (exfalso; first | (simp at h; done) | exact absurd (of_decide_eq_true h) (by assumption) | exact absurd (by assumption) (of_decide_eq_false h))) | (focus (exfalso; simp at h; omega)) | (rotate_left; focus (exfalso; simp at h; omega)); clear h))
      refine ⟨_, ld 3 rfl rfl, ?_⟩
      refine ⟨_, ld 0 rfl rfl, ?_⟩
      rw [f2 (.inl k2')]
      repeat (focus (refine ⟨fun h => ?_, fun h => ?_⟩; first | (focus (exfalso; first | (simp at h; done) | exact absurd (of_decide_eq_true h) (by assumption) | exact absurd (by assumption) (of_decide_eq_false h))) | (rotate_left; focus (exfalso; first | (simp at h; done) | exact absurd (of_decide_eq_true h) (by assumption) | exact absurd (by assumption) (of_decide_eq_false h))) | (focus (exfalso; simp at h; omega)) | (rotate_left; focus (exfalso; simp at h; omega)); clear h))
      (intro z hz; obtain rfl := wr_i64 hz (by omega) (by omega); clear hz)
      exact ⟨rfl, (i + 1, data.length - r.length, off, A, k, cap, xs), ⟨q1, q2, q3, hk, hx, hg⟩, by show l.length - (i + 1) < l.length - i; omega, ⟨rfl, trivial⟩, (Ent.dropr [_] _).trans (Ent.drop [_, _] [_]), rfl⟩
    by_cases k7' : x.k = 7
    · repeat (focus (refine ⟨fun h => ?_, fun h => ?_⟩; first | (focus (exfalso; first | (simp at h; done) | exact absurd (of_decide_eq_true h) (by assumption) | exact absurd (by assumption) (of_decide_eq_false h))) | (rotate_left; focus (exfalso; first | (simp at h; done) | exact absurd (of_decide_eq_true h) (by assumption) | exact absurd (by assumption) (of_decide_eq_false h))) | (focus (exfalso; simp at h; omega)) | (rotate_left; focus (exfalso; simp at h; omega)); clear h))
      refine ⟨_, ld 3 rfl rfl, ?_⟩
      refine ⟨_, ld 0 rfl rfl, ?_⟩
      rw [f2 (.inr k7')]
      repeat (focus (refine ⟨fun h => ?_, fun h => ?_⟩; first | (focus (exfalso; first | (simp at h; done) | exact absurd (of_decide_eq_true h) (by assumption) | exact absurd (by assumption) (of_decide_eq_false h))) | (rotate_left; focus (exfalso; first | (simp at h; done) | exact absurd (of_decide_eq_true h) (by assumption) | exact absurd (by assumption) (of_decide_eq_false h))) | (focus (exfalso; simp at h; omega)) | (rotate_left; focus (exfalso; simp at h; omega)); clear h))
      (intro z hz; obtain rfl := wr_i64 hz (by omega) (by omega); clear hz)
      exact ⟨rfl, (i + 1, data.length - r.length, off, A, k, cap, xs), ⟨q1, q2, q3, hk, hx, hg⟩, by show l.length - (i + 1) < l.length - i; omega, ⟨rfl, trivial⟩, (Ent.dropr [_] _).trans (Ent.drop [_, _] [_]), rfl⟩
    by_cases k3' : x.k = 3
    · repeat (focus (refine ⟨fun h => ?_, fun h => ?_⟩; first | (focus (exfalso; first | (simp at h; done) | exact absurd (of_decide_eq_true h) (by assumption) | exact absurd (by assumption) (of_decide_eq_false h))) | (rotate_left; focus (exfalso; first | (simp at h; done) | exact absurd (of_decide_eq_true h) (by assumption) | exact absurd (by assumption) (of_decide_eq_false h))) | (focus (exfalso; simp at h; omega)) | (rotate_left; focus (exfalso; simp at h; omega)); clear h))
      refine ⟨_, ld 3 rfl rfl, ?_⟩
      refine ⟨_, ld 0 rfl rfl, ?_⟩
      rw [f3 k3']
      repeat (focus (refine ⟨fun h => ?_, fun h => ?_⟩; first | (focus (exfalso; first | (simp at h; done) | exact absurd (of_decide_eq_true h) (by assumption) | exact absurd (by assumption) (of_decide_eq_false h))) | (rotate_left; focus (exfalso; first | (simp at h; done) | exact absurd (of_decide_eq_true h) (by assumption) | exact absurd (by assumption) (of_decide_eq_false h))) | (focus (exfalso; simp at h; omega)) | (rotate_left; focus (exfalso; simp at h; omega)); clear h))
      (intro z hz; obtain rfl := wr_i64 hz (by omega) (by omega); clear hz)
      exact ⟨rfl, (i + 1, data.length - r.length, off, A, k, cap, xs), ⟨q1, q2, q3, hk, hx, hg⟩, by show l.length - (i + 1) < l.length - i; omega, ⟨rfl, trivial⟩, (Ent.dropr [_] _).trans (Ent.drop [_, _] [_]), rfl⟩
    repeat (focus (refine ⟨fun h => ?_, fun h => ?_⟩; first | (focus (exfalso; first | (simp at h; done) | exact absurd (of_decide_eq_true h) (by assumption) | exact absurd (by assumption) (of_decide_eq_false h))) | (rotate_left; focus (exfalso; first | (simp at h; done) | exact absurd (of_decide_eq_true h) (by assumption) | exact absurd (by assumption) (of_decide_eq_false h))) | (focus (exfalso; simp at h; omega)) | (rotate_left; focus (exfalso; simp at h; omega)); clear h))
    refine ⟨_, ld 3 rfl rfl, ?_⟩
    refine ⟨_, ld 0 rfl rfl, ?_⟩
    rw [f4 (by omega)]
    repeat (focus (refine ⟨fun h => ?_, fun h => ?_⟩; first | (focus (exfalso; first | (simp at h; done) | exact absurd (of_decide_eq_true h) (by assumption) | exact absurd (by assumption) (of_decide_eq_false h))) | (rotate_left; focus (exfalso; first | (simp at h; done) | exact absurd (of_decide_eq_true h) (by assumption) | exact absurd (by assumption) (of_decide_eq_false h))) | (focus (exfalso; simp at h; omega)) | (rotate_left; focus (exfalso; simp at h; omega)); clear h))
    (intro z hz; obtain rfl := wr_i64 hz (by omega) (by omega); clear hz)
    exact ⟨rfl, (i + 1, data.length - r.length, off, A, k, cap, xs), ⟨q1, q2, q3, hk, hx, hg⟩, by show l.length - (i + 1) < l.length - i; omega, ⟨rfl, trivial⟩, (Ent.dropr [_] _).trans (Ent.drop [_, _] [_]), rfl⟩
  · replace hb := of_decide_eq_false hb
    obtain rfl : i = l.length := by omega
    have hoff : off = data.length := by
      rw [List.drop_length, encL] at hD
      have := congrArg List.length (Option.some.inj hD)
      rw [List.length_drop] at this
      simp at this
      omega
    subst hoff
    refine ⟨[0, 0], _, REnd_ok _ g data data.length last 0 _ ⟨A, k, cap, xs, rfl, hk, hx, hg⟩, ?_⟩
    rintro v' h' ⟨rfl, -⟩
    have hend : endE data data.length 0 = 0 := by rw [endE, if_pos rfl, if_neg (by omega)]
    rw [hend]
    repeat (focus (refine ⟨fun h => ?_, fun h => ?_⟩; first | (focus (exfalso; first | (simp at h; done) | exact absurd (of_decide_eq_true h) (by assumption) | exact absurd (by assumption) (of_decide_eq_false h))) | (rotate_left; focus (exfalso; first | (simp at h; done) | exact absurd (of_decide_eq_true h) (by assumption) | exact absurd (by assumption) (of_decide_eq_false h))) | (focus (exfalso; simp at h; omega)) | (rotate_left; focus (exfalso; simp at h; omega)); clear h))
    refine ⟨_, Ent.nil _, ?_⟩
    first | rfl | (show Value.bool (decide _) = _; simp)

theorem WireReturns_law (R : Rd) (v0 : Value) (s0 : SeenV R (.sl 6 ItemShp) v0) :
    Fn Try.prog 11 [v0] [] R (fun v _ => v = .bool true) := by
  obtain ⟨l, hok, hl, hs⟩ := s0.items
  exact WireReturns_ok R v0 l hok (by rw [maxLen_eq] at hl; exact hl) hs

end Go.Proofs.Ytknilabilihlnaa
