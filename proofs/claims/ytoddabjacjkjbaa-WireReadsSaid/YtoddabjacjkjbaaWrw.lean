/-
  The law WireReads.
-/
import Derived.Test.YtoddabjacjkjbaaWrv
namespace Go.Proofs.Ytoddabjacjkjbaa
open Go Go.RowKit
set_option linter.unusedVariables false
set_option linter.unusedSimpArgs false

set_option maxRecDepth 100000 in
set_option maxHeartbeats 16000000 in
theorem WireReads_law (R : Rd) (v0 v1 : Value) (s0 : SeenV R (.sl 1 (.int .u8)) v0) (s1 : SeenV R (.sl 6 ItemShp) v1) :
    Fn Try.prog 3 [v0, v1] [] R (fun v _ => v = .bool true) := by
  have hML := maxLen_eq
  obtain ⟨data, A, cap, rfl, hdl, hc, hs⟩ := s0.cap1
  obtain ⟨l, hoks, hll, hi⟩ := s1.items
  obtain ⟨A0, cap0, rfl⟩ := hi.form
  refine fn_of_vc mixed tabOk Try.func3 rfl (by kernel_rfl) (Nat.le_of_ble_eq_true rfl) ?_
  refine ⟨[], _, awake_ok _, ?_⟩
  rintro _ _ ⟨rfl, rfl⟩
  repeat (first | (refine ⟨fun h => ?_, fun h => ?_⟩; rotate_left 1; (focus (exfalso; (first | (with_reducible (cases h; done)) | (revert h; simp; done) | (revert h; simp; omega) | (revert h; simp [*]; done)))); clear h) | (refine ⟨fun h => ?_, fun h => ?_⟩; (focus (exfalso; (first | (with_reducible (cases h; done)) | (revert h; simp; done) | (revert h; simp; omega) | (revert h; simp [*]; done)))); clear h))
  by_cases hd : 1000 < data.length
  · repeat (first | (refine ⟨fun h => ?_, fun h => ?_⟩; rotate_left 1; (focus (exfalso; (first | (with_reducible (cases h; done)) | (revert h; simp; done) | (revert h; simp; omega) | (revert h; simp [*]; done)))); clear h) | (refine ⟨fun h => ?_, fun h => ?_⟩; (focus (exfalso; (first | (with_reducible (cases h; done)) | (revert h; simp; done) | (revert h; simp; omega) | (revert h; simp [*]; done)))); clear h))
    exact ⟨_, Ent.nil _, rfl⟩
  by_cases hl : 40 < l.length
  · repeat (first | (refine ⟨fun h => ?_, fun h => ?_⟩; rotate_left 1; (focus (exfalso; (first | (with_reducible (cases h; done)) | (revert h; simp; done) | (revert h; simp; omega) | (revert h; simp [*]; done)))); clear h) | (refine ⟨fun h => ?_, fun h => ?_⟩; (focus (exfalso; (first | (with_reducible (cases h; done)) | (revert h; simp; done) | (revert h; simp; omega) | (revert h; simp [*]; done)))); clear h))
    exact ⟨_, Ent.nil _, rfl⟩
  repeat (first | (refine ⟨fun h => ?_, fun h => ?_⟩; rotate_left 1; (focus (exfalso; (first | (with_reducible (cases h; done)) | (revert h; simp; done) | (revert h; simp; omega) | (revert h; simp [*]; done)))); clear h) | (refine ⟨fun h => ?_, fun h => ?_⟩; (focus (exfalso; (first | (with_reducible (cases h; done)) | (revert h; simp; done) | (revert h; simp; omega) | (revert h; simp [*]; done)))); clear h))
  refine ⟨[], _, NewReader_ok _ _ data (by omega) (hs.rh _), ?_⟩
  rintro _ _ ⟨g, rfl, A1, k1, cap1, xs1, rfl, hk1, hx1, hg1⟩
  intro g2
  refine ⟨[none, none, none, none, some 4, none, none, some 7, some 8, some 9, some 10, some 11, none, none, none, none, none, none, none, none, none, none, none, none, none, none, none, none, none, none, none, some 31, some 32, some 33, some 34, some 35, some 36, some 37, some 38, some 39, some 40, some 41, some 42, some 43, some 44, some 45, some 46, some 47, some 48, some 49, some 50, some 51, some 52, some 53, some 54, some 55, some 56, some 57, some 58, some 59, some 60, some 61, some 62, some 63, some 64, some 65, some 66, some 67, some 68, some 69, some 70, some 71, some 72, some 73, some 74, some 75, some 76], [7], Nat × (Nat × Nat × Int) × Nat × (Option Addr × Nat × Nat × List Value),
    fun ⟨i, (off, last, e), lr, (A1, k1, _, xs1)⟩ => i ≤ l.length ∧ off ≤ data.length ∧ last ≤ data.length ∧ (e = 0 → lr = last) ∧ k1 = data.length ∧ xs1 = BV data ∧ grow k1 A1,
    fun ⟨i, _⟩ => [.int .i64 i],
    fun ⟨_, (off, last, e), lr, (A1, k1, cap1, xs1)⟩ => [.blk g 52 [.slice A1 k1 cap1, .int .i64 off, .int .i64 last, .int .i64 e], .row A1 k1 cap1 5 1 xs1 (0, 0), .blk g2 30 (rrC A data.length cap off lr e)],
    fun ⟨i, _⟩ => l.length - i, (0, (0, 0, 0), 0, (A1, k1, cap1, xs1)), ⟨Nat.zero_le _, Nat.zero_le _, Nat.zero_le _, fun _ => rfl, hk1, hx1, hg1⟩, ⟨rfl, trivial⟩, Ent.refl _, ?_⟩
  clear hk1 hx1 hg1
  rintro ⟨i, ⟨off, last, e⟩, lr, ⟨A1, k1, cap1, xs1⟩⟩ ⟨hil, ho, hlast, hlr, hk1, hx1, hg1⟩ js
  have hil : i ≤ l.length := hil
  have ho : off ≤ data.length := ho
  have hlast : last ≤ data.length := hlast
  have hlr : e = 0 → lr = last := hlr
  by_cases h1 : i < l.length
  · repeat (first | (refine ⟨fun h => ?_, fun h => ?_⟩; rotate_left 1; (focus (exfalso; (first | (with_reducible (cases h; done)) | (revert h; simp; done) | (revert h; simp; omega) | (revert h; simp [*]; done)))); clear h) | (refine ⟨fun h => ?_, fun h => ?_⟩; (focus (exfalso; (first | (with_reducible (cases h; done)) | (revert h; simp; done) | (revert h; simp; omega) | (revert h; simp [*]; done)))); clear h))
    obtain ⟨c, rfl, hRa⟩ := hi.at_ (List.getElem?_eq_getElem h1)
    have hok := hoks _ (List.getElem_mem h1)
    generalize l[i] = x at hRa hok
    refine ⟨[], lexT 0 12, by kernel_rfl, ?_⟩
    refine ⟨by omega, by omega, c, rfl, ?_⟩
    refine ⟨_, ro (fld (hRa 0 _ rfl)), ?_⟩
    refine ⟨by omega, by omega, c, rfl, ?_⟩
    refine ⟨_, ro (fld (hRa 5 _ rfl)), ?_⟩
    by_cases hk0 : x.k = 0
    · repeat (first | (refine ⟨fun h => ?_, fun h => ?_⟩; rotate_left 1; (focus (exfalso; (first | (with_reducible (cases h; done)) | (revert h; simp; done) | (revert h; simp; omega) | (revert h; simp [*]; done)))); clear h) | (refine ⟨fun h => ?_, fun h => ?_⟩; (focus (exfalso; (first | (with_reducible (cases h; done)) | (revert h; simp; done) | (revert h; simp; omega) | (revert h; simp [*]; done)))); clear h))
      obtain ⟨hle1, hle2⟩ := getN_le (k := x.k) (most := x.m) (st := (off, last, e)) ho hlast
      refine ⟨[0, 0], _, get_ok _ g data off last e _ x.k x.m hok.m2 ho (by omega) ⟨A1, k1, cap1, xs1, rfl, hk1, hx1, hg1⟩, ?_⟩
      clear hk1 hx1 hg1
      rintro _ _ ⟨rfl, A1, k1, cap1, xs1, rfl, hk1, hx1, hg1⟩
      refine ⟨[0], _, RRead_ok _ g2 data off last lr e x.k x.m A cap (.inl hk0) hlr hok.m2 ho (by omega) hc (hs.rh _), ?_⟩
      rintro _ _ ⟨rfl, lr2, rfl, hlr2⟩
      generalize getI x.k x.m e (data.drop off) = y
      generalize getN data (off, last, e) x.k x.m = st at hle1 hle2 hlr2 ⊢
      obtain ⟨off2, last2, e2⟩ := st
      have hle1 : off2 ≤ data.length := hle1
      intro g10 g11
      refine ⟨rfl, rfl, 3, rfl, rfl, Nat.le_of_ble_eq_true rfl, ?_⟩
      refine ⟨rfl, rfl, 4, rfl, rfl, Nat.le_of_ble_eq_true rfl, ?_⟩
      refine ⟨[2,2,2], (.q 0 (.q 1 (.q 2 (.q 3 (.q 4 (.q 6 (.q 7 (.q 8 (.q 9 (.q 10 (.q 11 (.q 12 (.one 5 (.q 13 (.q 14 .nil))))))))))))))), by kernel_rfl, ?_⟩
      refine ⟨y.cells, rdBlk 1 rfl, rfl, ?_⟩
      refine ⟨y.cells, rdBlk 2 rfl, rfl, ?_⟩
      intro q hq
      obtain rfl : q = true := hq.2 rfl
      clear hq
      repeat (first | (refine ⟨fun h => ?_, fun h => ?_⟩; rotate_left 1; (focus (exfalso; (first | (with_reducible (cases h; done)) | (revert h; simp; done) | (revert h; simp; omega) | (revert h; simp [*]; done)))); clear h) | (refine ⟨fun h => ?_, fun h => ?_⟩; (focus (exfalso; (first | (with_reducible (cases h; done)) | (revert h; simp; done) | (revert h; simp; omega) | (revert h; simp [*]; done)))); clear h))
      refine ⟨_, ld 0 rfl rfl, ?_⟩
      repeat (first | (refine ⟨fun h => ?_, fun h => ?_⟩; rotate_left 1; (focus (exfalso; (first | (with_reducible (cases h; done)) | (revert h; simp; done) | (revert h; simp; omega) | (revert h; simp [*]; done)))); clear h) | (refine ⟨fun h => ?_, fun h => ?_⟩; (focus (exfalso; (first | (with_reducible (cases h; done)) | (revert h; simp; done) | (revert h; simp; omega) | (revert h; simp [*]; done)))); clear h))
      (intro z hz; obtain rfl : z = ((data.length - off2 : Nat) : Int) := (by first | (rw [IntKind.wrap_i64] at hz; omega) | (rw [IntKind.wrap_u64] at hz; omega) | omega); clear hz)
      repeat (first | (refine ⟨fun h => ?_, fun h => ?_⟩; rotate_left 1; (focus (exfalso; (first | (with_reducible (cases h; done)) | (revert h; simp; done) | (revert h; simp; omega) | (revert h; simp [*]; done)))); clear h) | (refine ⟨fun h => ?_, fun h => ?_⟩; (focus (exfalso; (first | (with_reducible (cases h; done)) | (revert h; simp; done) | (revert h; simp; omega) | (revert h; simp [*]; done)))); clear h))
      refine ⟨[0, 0], _, RLeft_ok _ g data off2 last2 e2 _ hle1 (by omega) ⟨A1, k1, cap1, xs1, rfl, hk1, hx1, hg1⟩, ?_⟩
      clear hk1 hx1 hg1
      rintro _ _ ⟨rfl, A1, k1, cap1, xs1, rfl, hk1, hx1, hg1⟩
      repeat (first | (refine ⟨fun h => ?_, fun h => ?_⟩; rotate_left 1; (focus (exfalso; (first | (with_reducible (cases h; done)) | (revert h; simp; done) | (revert h; simp; omega) | (revert h; simp [*]; done)))); clear h) | (refine ⟨fun h => ?_, fun h => ?_⟩; (focus (exfalso; (first | (with_reducible (cases h; done)) | (revert h; simp; done) | (revert h; simp; omega) | (revert h; simp [*]; done)))); clear h))
      (intro z hz; obtain rfl : z = ((i + 1 : Nat) : Int) := (by first | (rw [IntKind.wrap_i64] at hz; omega) | (rw [IntKind.wrap_u64] at hz; omega) | omega); clear hz)
      exact ⟨rfl, (i + 1, (off2, last2, e2), lr2, (A1, k1, cap1, xs1)), ⟨by show i + 1 ≤ _; omega, hle1, hle2, hlr2, hk1, hx1, hg1⟩, by show l.length - (i + 1) < l.length - i; omega, ⟨rfl, trivial⟩, Ent.pick [3, 3, 0] rfl, rfl⟩
    repeat (first | (refine ⟨fun h => ?_, fun h => ?_⟩; rotate_left 1; (focus (exfalso; (first | (with_reducible (cases h; done)) | (revert h; simp; done) | (revert h; simp; omega) | (revert h; simp [*]; done)))); clear h) | (refine ⟨fun h => ?_, fun h => ?_⟩; (focus (exfalso; (first | (with_reducible (cases h; done)) | (revert h; simp; done) | (revert h; simp; omega) | (revert h; simp [*]; done)))); clear h))
    refine ⟨[], _, Known_ok _ x.k, ?_⟩
    rintro _ _ ⟨rfl, rfl⟩
    cases hkn : knownB x.k
    · repeat (first | (refine ⟨fun h => ?_, fun h => ?_⟩; rotate_left 1; (focus (exfalso; (first | (with_reducible (cases h; done)) | (revert h; simp; done) | (revert h; simp; omega) | (revert h; simp [*]; done)))); clear h) | (refine ⟨fun h => ?_, fun h => ?_⟩; (focus (exfalso; (first | (with_reducible (cases h; done)) | (revert h; simp; done) | (revert h; simp; omega) | (revert h; simp [*]; done)))); clear h))
      (intro z hz; obtain rfl : z = ((i + 1 : Nat) : Int) := (by first | (rw [IntKind.wrap_i64] at hz; omega) | (rw [IntKind.wrap_u64] at hz; omega) | omega); clear hz)
      exact ⟨rfl, (i + 1, (off, last, e), lr, (A1, k1, cap1, xs1)), ⟨by show i + 1 ≤ _; omega, ho, hlast, hlr, hk1, hx1, hg1⟩, by show l.length - (i + 1) < l.length - i; omega, ⟨rfl, trivial⟩, Ent.refl _, rfl⟩
    repeat (first | (refine ⟨fun h => ?_, fun h => ?_⟩; rotate_left 1; (focus (exfalso; (first | (with_reducible (cases h; done)) | (revert h; simp; done) | (revert h; simp; omega) | (revert h; simp [*]; done)))); clear h) | (refine ⟨fun h => ?_, fun h => ?_⟩; (focus (exfalso; (first | (with_reducible (cases h; done)) | (revert h; simp; done) | (revert h; simp; omega) | (revert h; simp [*]; done)))); clear h))
    obtain ⟨hle1, hle2⟩ := getN_le (k := x.k) (most := x.m) (st := (off, last, e)) ho hlast
    refine ⟨[0, 0], _, get_ok _ g data off last e _ x.k x.m hok.m2 ho (by omega) ⟨A1, k1, cap1, xs1, rfl, hk1, hx1, hg1⟩, ?_⟩
    clear hk1 hx1 hg1
    rintro _ _ ⟨rfl, A1, k1, cap1, xs1, rfl, hk1, hx1, hg1⟩
    refine ⟨[0], _, RRead_ok _ g2 data off last lr e x.k x.m A cap (.inr hkn) hlr hok.m2 ho (by omega) hc (hs.rh _), ?_⟩
    rintro _ _ ⟨rfl, lr2, rfl, hlr2⟩
    generalize getI x.k x.m e (data.drop off) = y
    generalize getN data (off, last, e) x.k x.m = st at hle1 hle2 hlr2 ⊢
    obtain ⟨off2, last2, e2⟩ := st
    have hle1 : off2 ≤ data.length := hle1
    intro g10 g11
    refine ⟨rfl, rfl, 3, rfl, rfl, Nat.le_of_ble_eq_true rfl, ?_⟩
    refine ⟨rfl, rfl, 4, rfl, rfl, Nat.le_of_ble_eq_true rfl, ?_⟩
    refine ⟨[2,2,2], (.q 0 (.q 1 (.q 2 (.q 3 (.q 4 (.q 6 (.q 7 (.q 8 (.q 9 (.q 10 (.q 11 (.q 12 (.one 5 (.q 13 (.q 14 .nil))))))))))))))), by kernel_rfl, ?_⟩
    refine ⟨y.cells, rdBlk 1 rfl, rfl, ?_⟩
    refine ⟨y.cells, rdBlk 2 rfl, rfl, ?_⟩
    intro q hq
    obtain rfl : q = true := hq.2 rfl
    clear hq
    repeat (first | (refine ⟨fun h => ?_, fun h => ?_⟩; rotate_left 1; (focus (exfalso; (first | (with_reducible (cases h; done)) | (revert h; simp; done) | (revert h; simp; omega) | (revert h; simp [*]; done)))); clear h) | (refine ⟨fun h => ?_, fun h => ?_⟩; (focus (exfalso; (first | (with_reducible (cases h; done)) | (revert h; simp; done) | (revert h; simp; omega) | (revert h; simp [*]; done)))); clear h))
    refine ⟨_, ld 0 rfl rfl, ?_⟩
    repeat (first | (refine ⟨fun h => ?_, fun h => ?_⟩; rotate_left 1; (focus (exfalso; (first | (with_reducible (cases h; done)) | (revert h; simp; done) | (revert h; simp; omega) | (revert h; simp [*]; done)))); clear h) | (refine ⟨fun h => ?_, fun h => ?_⟩; (focus (exfalso; (first | (with_reducible (cases h; done)) | (revert h; simp; done) | (revert h; simp; omega) | (revert h; simp [*]; done)))); clear h))
    (intro z hz; obtain rfl : z = ((data.length - off2 : Nat) : Int) := (by first | (rw [IntKind.wrap_i64] at hz; omega) | (rw [IntKind.wrap_u64] at hz; omega) | omega); clear hz)
    repeat (first | (refine ⟨fun h => ?_, fun h => ?_⟩; rotate_left 1; (focus (exfalso; (first | (with_reducible (cases h; done)) | (revert h; simp; done) | (revert h; simp; omega) | (revert h; simp [*]; done)))); clear h) | (refine ⟨fun h => ?_, fun h => ?_⟩; (focus (exfalso; (first | (with_reducible (cases h; done)) | (revert h; simp; done) | (revert h; simp; omega) | (revert h; simp [*]; done)))); clear h))
    refine ⟨[0, 0], _, RLeft_ok _ g data off2 last2 e2 _ hle1 (by omega) ⟨A1, k1, cap1, xs1, rfl, hk1, hx1, hg1⟩, ?_⟩
    clear hk1 hx1 hg1
    rintro _ _ ⟨rfl, A1, k1, cap1, xs1, rfl, hk1, hx1, hg1⟩
    repeat (first | (refine ⟨fun h => ?_, fun h => ?_⟩; rotate_left 1; (focus (exfalso; (first | (with_reducible (cases h; done)) | (revert h; simp; done) | (revert h; simp; omega) | (revert h; simp [*]; done)))); clear h) | (refine ⟨fun h => ?_, fun h => ?_⟩; (focus (exfalso; (first | (with_reducible (cases h; done)) | (revert h; simp; done) | (revert h; simp; omega) | (revert h; simp [*]; done)))); clear h))
    (intro z hz; obtain rfl : z = ((i + 1 : Nat) : Int) := (by first | (rw [IntKind.wrap_i64] at hz; omega) | (rw [IntKind.wrap_u64] at hz; omega) | omega); clear hz)
    exact ⟨rfl, (i + 1, (off2, last2, e2), lr2, (A1, k1, cap1, xs1)), ⟨by show i + 1 ≤ _; omega, hle1, hle2, hlr2, hk1, hx1, hg1⟩, by show l.length - (i + 1) < l.length - i; omega, ⟨rfl, trivial⟩, Ent.pick [3, 3, 0] rfl, rfl⟩
  · repeat (first | (refine ⟨fun h => ?_, fun h => ?_⟩; rotate_left 1; (focus (exfalso; (first | (with_reducible (cases h; done)) | (revert h; simp; done) | (revert h; simp; omega) | (revert h; simp [*]; done)))); clear h) | (refine ⟨fun h => ?_, fun h => ?_⟩; (focus (exfalso; (first | (with_reducible (cases h; done)) | (revert h; simp; done) | (revert h; simp; omega) | (revert h; simp [*]; done)))); clear h))
    refine ⟨[0, 0], _, REnd_ok _ g data off last e _ ⟨A1, k1, cap1, xs1, rfl, hk1, hx1, hg1⟩, ?_⟩
    clear hk1 hx1 hg1
    rintro _ _ ⟨rfl, A1, k1, cap1, xs1, rfl, hk1, hx1, hg1⟩
    refine ⟨[0], _, RREnd_ok _ g2 data off lr e A cap, ?_⟩
    rintro _ _ ⟨rfl, rfl⟩
    generalize endE data off e = z
    repeat (first | (refine ⟨fun h => ?_, fun h => ?_⟩; rotate_left 1; (focus (exfalso; (first | (with_reducible (cases h; done)) | (revert h; simp; done) | (revert h; simp; omega) | (revert h; simp [*]; done)))); clear h) | (refine ⟨fun h => ?_, fun h => ?_⟩; (focus (exfalso; (first | (with_reducible (cases h; done)) | (revert h; simp; done) | (revert h; simp; omega) | (revert h; simp [*]; done)))); clear h))
    exact ⟨_, Ent.nil _, by show Value.bool (decide (z = z)) = _; rw [decide_eq_true rfl]⟩

end Go.Proofs.Ytoddabjacjkjbaa
