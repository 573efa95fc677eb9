/-
  What a reader reads of a record: plain; the contract of read.
-/
import Derived.Test.YtbgfnofjnbpdgaaDoorSan
namespace Go.Proofs.YtbgfnofjnbpdgaaDoor
open Go Go.RowKit
set_option linter.unusedVariables false

abbrev RS := Nat × Nat × Int
def uV (d : Str) (s : RS) : Nat := if s.2.2 = 0 then (uintD (d.drop s.1)).2.1 else 0
def uN (d : Str) (s : RS) : RS := nxt d s.1 s.2.1 s.2.2 (uintD (d.drop s.1)).1 (uintD (d.drop s.1)).2.2
def bV (d : Str) (s : RS) : Bool := if s.2.2 = 0 then (boolD (d.drop s.1)).2.1 else false
def bN (d : Str) (s : RS) : RS := nxt d s.1 s.2.1 s.2.2 (boolD (d.drop s.1)).1 (boolD (d.drop s.1)).2.2
def sV (d : Str) (s : RS) : Str := if s.2.2 = 0 then (sumD (d.drop s.1)).2.1 else []
def sN (d : Str) (s : RS) : RS := nxt d s.1 s.2.1 s.2.2 (sumD (d.drop s.1)).1 (sumD (d.drop s.1)).2.2
def tV (d : Str) (s : RS) : Str := if s.2.2 = 0 then (blkD 32 (d.drop s.1)).2.1 else []
def tN (d : Str) (s : RS) : RS := nxt d s.1 s.2.1 s.2.2 (blkD 32 (d.drop s.1)).1 (blkD 32 (d.drop s.1)).2.2

theorem nxt_le {d : Str} {off last : Nat} {e err : Int} {rest : Str} (h : off ≤ d.length) : (nxt d off last e err rest).1 ≤ d.length := by
  unfold nxt
  split
  · split
    · show d.length - rest.length ≤ _; omega
    · exact h
  · exact h
theorem nxt_err {d : Str} {off last : Nat} {e err : Int} {rest : Str} (h : (nxt d off last e err rest).2.2 = 0) : e = 0 ∧ err = 0 ∧ (nxt d off last e err rest).1 = d.length - rest.length := by
  unfold nxt at h ⊢
  by_cases h1 : e = 0
  · rw [if_pos h1] at h ⊢
    by_cases h2 : err = 0
    · rw [if_pos h2]; exact ⟨h1, h2, rfl⟩
    · rw [if_neg h2] at h; exact absurd h h2
  · rw [if_neg h1] at h; exact absurd h h1
theorem nxt_ok {d : Str} {off last : Nat} {rest : Str} : nxt d off last 0 0 rest = (d.length - rest.length, off, 0) := by
  unfold nxt; rw [if_pos rfl, if_pos rfl]
theorem drop_app (q r : Str) : (q ++ r).drop ((q ++ r).length - r.length) = r := by
  rw [List.length_append, Nat.add_sub_cancel, List.drop_left]
theorem drop_rest {d p r : Str} {o : Nat} (h : d.drop o = p ++ r) : d.drop (d.length - r.length) = r := by
  have h3 : d = (d.take o ++ p) ++ r := by rw [List.append_assoc, ← h, List.take_append_drop]
  rw [h3]
  exact drop_app _ _

/-! ### each read -/
theorem u_ok {d : Str} {s : RS} (h : (uN d s).2.2 = 0) : s.2.2 = 0 ∧ d.drop s.1 = num (uV d s) ++ d.drop (uN d s).1 ∧ uV d s ≤ 18446744073709551615 := by
  obtain ⟨h1, h2, h3⟩ := nxt_err h
  have hv : uV d s = (uintD (d.drop s.1)).2.1 := if_pos h1
  have h3 : (uN d s).1 = d.length - (uintD (d.drop s.1)).2.2.length := h3
  rw [hv, h3]
  unfold uintD at h2 ⊢
  cases hd : dec (d.drop s.1) with
  | none => rw [hd] at h2; cases h2
  | some p =>
    obtain ⟨n, r⟩ := p
    obtain ⟨e1, e2⟩ := dec_iff.1 hd
    refine ⟨h1, ?_, e2⟩
    show d.drop s.1 = num n ++ d.drop (d.length - r.length)
    rw [drop_rest e1]; exact e1
theorem u_mk {d : Str} {s : RS} {n : Nat} {r : Str} (h : s.2.2 = 0) (hd : d.drop s.1 = num n ++ r) (hn : n ≤ 18446744073709551615) : uV d s = n ∧ (uN d s).2.2 = 0 ∧ d.drop (uN d s).1 = r := by
  have e : uintD (d.drop s.1) = (0, n, r) := by unfold uintD; rw [dec_iff.2 ⟨hd, hn⟩]
  unfold uV uN
  rw [e, h, nxt_ok]
  exact ⟨if_pos rfl, rfl, drop_rest hd⟩
theorem b_ok {d : Str} {s : RS} (h : (bN d s).2.2 = 0) : s.2.2 = 0 ∧ d.drop s.1 = [b2 (bV d s)] ++ d.drop (bN d s).1 := by
  obtain ⟨h1, h2, h3⟩ := nxt_err h
  have hv : bV d s = (boolD (d.drop s.1)).2.1 := if_pos h1
  have h3 : (bN d s).1 = d.length - (boolD (d.drop s.1)).2.2.length := h3
  refine ⟨h1, ?_⟩
  rw [hv, h3]
  cases hd : d.drop s.1 with
  | nil => rw [hd] at h2; cases h2
  | cons b r =>
    have hB : boolD (b :: r) = if 1 < b.toNat then (3, false, []) else (0, decide (b.toNat = 1), r) := rfl
    rw [hd, hB] at h2
    rw [hB]
    by_cases hb : 1 < b.toNat
    · rw [if_pos hb] at h2; cases h2
    · rw [if_neg hb]
      show b :: r = [b2 (decide (b.toNat = 1))] ++ d.drop (d.length - r.length)
      rw [drop_rest (p := [b]) hd]
      have : b2 (decide (b.toNat = 1)) = b := by
        unfold b2
        by_cases h1 : b.toNat = 1
        · rw [decide_eq_true h1, if_pos rfl]; exact UInt8.toNat_inj.1 (by rw [h1]; rfl)
        · rw [decide_eq_false h1, if_neg (by decide)]; exact UInt8.toNat_inj.1 (by show 0 = _; omega)
      rw [this]; rfl
theorem b_mk {d : Str} {s : RS} {b : Bool} {r : Str} (h : s.2.2 = 0) (hd : d.drop s.1 = [b2 b] ++ r) : bV d s = b ∧ (bN d s).2.2 = 0 ∧ d.drop (bN d s).1 = r := by
  have e : boolD (d.drop s.1) = (0, b, r) := by
    rw [hd]
    show (if 1 < (b2 b).toNat then _ else ((0 : Int), decide ((b2 b).toNat = 1), r)) = _
    cases b <;> rfl
  unfold bV bN
  rw [e, h, nxt_ok]
  exact ⟨if_pos rfl, rfl, drop_rest hd⟩
theorem s_ok {d : Str} {s : RS} (h : (sN d s).2.2 = 0) : s.2.2 = 0 ∧ d.drop s.1 = sV d s ++ d.drop (sN d s).1 ∧ (sV d s).length = 32 := by
  obtain ⟨h1, h2, h3⟩ := nxt_err h
  have hv : sV d s = (sumD (d.drop s.1)).2.1 := if_pos h1
  have h3 : (sN d s).1 = d.length - (sumD (d.drop s.1)).2.2.length := h3
  rw [hv, h3]
  unfold sumD at h2 ⊢
  by_cases hl : (d.drop s.1).length < 32
  · rw [if_pos hl] at h2; cases h2
  · rw [if_neg hl]
    refine ⟨h1, ?_, by show ((d.drop s.1).take 32).length = 32; rw [List.length_take]; omega⟩
    show d.drop s.1 = (d.drop s.1).take 32 ++ d.drop (d.length - ((d.drop s.1).drop 32).length)
    have e : d.drop s.1 = (d.drop s.1).take 32 ++ (d.drop s.1).drop 32 := (List.take_append_drop _ _).symm
    rw [drop_rest e]; exact e
theorem s_mk {d : Str} {s : RS} {x r : Str} (h : s.2.2 = 0) (hd : d.drop s.1 = x ++ r) (hx : x.length = 32) : sV d s = x ∧ (sN d s).2.2 = 0 ∧ d.drop (sN d s).1 = r := by
  have e : sumD (d.drop s.1) = (0, x, r) := by
    unfold sumD
    rw [hd, if_neg (by rw [List.length_append]; omega), List.take_append_of_le_length (by omega), List.take_of_length_le (by omega), List.drop_append_of_le_length (by omega), List.drop_of_length_le (by omega)]; rfl
  unfold sV sN
  rw [e, h, nxt_ok]
  exact ⟨if_pos rfl, rfl, drop_rest hd⟩
theorem t_ok {d : Str} {s : RS} (h : (tN d s).2.2 = 0) : s.2.2 = 0 ∧ d.drop s.1 = num (tV d s).length ++ (tV d s ++ d.drop (tN d s).1) := by
  obtain ⟨h1, h2, h3⟩ := nxt_err h
  have hv : tV d s = (blkD 32 (d.drop s.1)).2.1 := if_pos h1
  have h3 : (tN d s).1 = d.length - (blkD 32 (d.drop s.1)).2.2.length := h3
  rw [hv, h3]
  refine ⟨h1, ?_⟩
  unfold blkD limD at h2 ⊢
  cases hd : dec (d.drop s.1) with
  | none => rw [hd] at h2; cases h2
  | some p =>
    obtain ⟨n, r⟩ := p
    obtain ⟨e1, e2⟩ := dec_iff.1 hd
    rw [hd] at h2
    by_cases hm : max (32 : Int) 0 < (n : Int)
    · simp only [if_pos hm] at h2; cases h2
    · simp only [if_neg hm, if_true] at h2 ⊢
      by_cases hl : r.length < n
      · simp only [if_pos hl] at h2; cases h2
      · simp only [if_neg hl]
        have hl2 : (r.take n).length = n := by rw [List.length_take]; omega
        have e3 : d.drop s.1 = (num n ++ r.take n) ++ r.drop n := by rw [List.append_assoc, List.take_append_drop]; exact e1
        rw [hl2, drop_rest e3, e3, List.append_assoc]
theorem t_mk {d : Str} {s : RS} {x r : Str} (h : s.2.2 = 0) (hd : d.drop s.1 = num x.length ++ (x ++ r)) (hx : x.length ≤ 32) : tV d s = x ∧ (tN d s).2.2 = 0 ∧ d.drop (tN d s).1 = r := by
  have e : blkD 32 (d.drop s.1) = (0, x, r) := by
    have hl : limD 32 (d.drop s.1) = (0, x.length, x ++ r) := by
      unfold limD
      rw [dec_iff.2 ⟨hd, by omega⟩]
      show (if max (32 : Int) 0 < (x.length : Int) then _ else _) = _
      rw [if_neg (by omega)]
    unfold blkD
    rw [hl]
    simp
  unfold tV tN
  rw [e, h, nxt_ok]
  refine ⟨if_pos rfl, rfl, ?_⟩
  rw [← List.append_assoc] at hd
  exact drop_rest hd
theorem uN_le {d : Str} {s : RS} (h : s.1 ≤ d.length) : (uN d s).1 ≤ d.length := nxt_le h
theorem bN_le {d : Str} {s : RS} (h : s.1 ≤ d.length) : (bN d s).1 ≤ d.length := nxt_le h
theorem sN_le {d : Str} {s : RS} (h : s.1 ≤ d.length) : (sN d s).1 ≤ d.length := nxt_le h
theorem tN_le {d : Str} {s : RS} (h : s.1 ≤ d.length) : (tN d s).1 ≤ d.length := nxt_le h

/-! ### a record -/
def iW (n : Nat) : Int := IntKind.i64.wrap (n : Int)
def r1 (d : Str) (s : RS) : RS := uN d s
def r2 (d : Str) (s : RS) : RS := uN d (r1 d s)
def r3 (d : Str) (s : RS) : RS := uN d (r2 d s)
def r4 (d : Str) (s : RS) : RS := sN d (r3 d s)
def r5 (d : Str) (s : RS) : RS := uN d (r4 d s)
def r6 (d : Str) (s : RS) : RS := uN d (r5 d s)
def r7 (d : Str) (s : RS) : RS := uN d (r6 d s)
def r8 (d : Str) (s : RS) : RS := uN d (r7 d s)
def rN (d : Str) (s : RS) : RS := tN d (r8 d s)
def rV (d : Str) (s : RS) : Snap := ⟨iW (uV d s), iW (uV d (r1 d s)), iW (uV d (r2 d s)), sV d (r3 d s), iW (uV d (r4 d s)), iW (uV d (r5 d s)), iW (uV d (r6 d s)), iW (uV d (r7 d s)), tV d (r8 d s), false⟩
theorem rN_le {d : Str} {s : RS} (h : s.1 ≤ d.length) : (rN d s).1 ≤ d.length := tN_le (uN_le (uN_le (uN_le (uN_le (sN_le (uN_le (uN_le (uN_le h))))))))
theorem iW_nat {n : Nat} (h : n ≤ 9223372036854775807) : iW n = n := by unfold iW; rw [IntKind.wrap_i64]; omega
theorem iW_pos {n : Nat} (hn : n ≤ 18446744073709551615) (h : 0 ≤ iW n) : (iW n).toNat = n := by
  unfold iW at h ⊢
  rw [IntKind.wrap_i64] at h ⊢; omega
theorem r_ok {d : Str} {s : RS} (h : (rN d s).2.2 = 0) (hv : Valid (rV d s)) : s.2.2 = 0 ∧ d.drop s.1 = encP (rV d s) ++ d.drop (rN d s).1 := by
  obtain ⟨g8, e9⟩ := t_ok h
  obtain ⟨g7, e8, m8⟩ := u_ok g8
  obtain ⟨g6, e7, m7⟩ := u_ok g7
  obtain ⟨g5, e6, m6⟩ := u_ok g6
  obtain ⟨g4, e5, m5⟩ := u_ok g5
  obtain ⟨g3, e4, _⟩ := s_ok g4
  obtain ⟨g2, e3, m3⟩ := u_ok g3
  obtain ⟨g1, e2, m2⟩ := u_ok g2
  obtain ⟨g0, e1, m1⟩ := u_ok g1
  refine ⟨g0, ?_⟩
  obtain ⟨v1, v2, v3, v4, v5, v6, v7, v8, _, _⟩ := hv
  have a1 : (rV d s).w.toNat = _ := iW_pos m1 v1.1
  have a2 : (rV d s).q.toNat = _ := iW_pos m2 (by have := v2.1; show 0 ≤ (rV d s).q; omega)
  have a3 : (rV d s).d.toNat = _ := iW_pos m3 v3.1
  have a5 : (rV d s).gn.toNat = _ := iW_pos m5 v5.1
  have a6 : (rV d s).sz.toNat = _ := iW_pos m6 v6.1
  have a7 : (rV d s).fl.toNat = _ := iW_pos m7 v7.1
  have a8 : (rV d s).bt.toNat = _ := iW_pos m8 v8.1
  unfold encP
  rw [a1, a2, a3, a5, a6, a7, a8]
  simp only [List.append_assoc]
  rw [e1]; congr 1
  refine Eq.trans e2 ?_; congr 1
  refine Eq.trans e3 ?_; congr 1
  refine Eq.trans e4 ?_; congr 1
  refine Eq.trans e5 ?_; congr 1
  refine Eq.trans e6 ?_; congr 1
  refine Eq.trans e7 ?_; congr 1
  refine Eq.trans e8 ?_; congr 1
theorem r_mk {d : Str} {s : RS} {x : Snap} {r : Str} (h : s.2.2 = 0) (hv : Valid x) (hd : d.drop s.1 = encP x ++ r) : rV d s = x.bare ∧ (rN d s).2.2 = 0 ∧ d.drop (rN d s).1 = r := by
  have hpv := hv.pv_le
  obtain ⟨v1, v2, v3, v4, v5, v6, v7, v8, _, _⟩ := hv
  unfold encP at hd
  simp only [List.append_assoc] at hd
  obtain ⟨a1, b1, c1⟩ := u_mk h hd (by omega)
  obtain ⟨a2, b2, c2⟩ := u_mk b1 c1 (by omega)
  obtain ⟨a3, b3, c3⟩ := u_mk b2 c2 (by omega)
  obtain ⟨a4, b4, c4⟩ := s_mk b3 c3 v4
  obtain ⟨a5, b5, c5⟩ := u_mk b4 c4 (by omega)
  obtain ⟨a6, b6, c6⟩ := u_mk b5 c5 (by omega)
  obtain ⟨a7, b7, c7⟩ := u_mk b6 c6 (by omega)
  obtain ⟨a8, b8, c8⟩ := u_mk b7 c7 (by omega)
  obtain ⟨a9, b9, c9⟩ := t_mk b8 c8 hpv
  refine ⟨?_, b9, c9⟩
  have w : ∀ {n : Nat} {z : Int}, n = z.toNat → 0 ≤ z → z ≤ 1099511627776 → iW n = z := fun {n z} h h0 h1 => by rw [iW_nat (by omega), h]; omega
  exact Snap.ext' (w (z := x.w) a1 v1.1 (by omega)) (w (z := x.q) a2 (by omega) v2.2) (w (z := x.d) a3 v3.1 (by omega)) a4 (w (z := x.gn) a5 v5.1 v5.2) (w (z := x.sz) a6 v6.1 (by omega)) (w (z := x.fl) a7 v7.1 (by omega)) (w (z := x.bt) a8 v8.1 v8.2) a9 rfl

/-! ### the contract of read -/
theorem RU (R : Rd) {g : Nat} {d : Str} {s : RS} {h : Hp} (ho : s.1 ≤ d.length) (hd : d.length ≤ 1000000000) (hr : IsRn g d s h) :
    Fn Tryd.prog 90 [.pointer (some ⟨g, 0, .none⟩)] h R (fun v h' => v = .int .u64 (uV d s : Nat) ∧ IsRn g d (uN d s) h') := RUint_ok R g d s.1 s.2.1 s.2.2 h ho (by omega) hr
theorem RB (R : Rd) {g : Nat} {d : Str} {s : RS} {h : Hp} (ho : s.1 ≤ d.length) (hd : d.length ≤ 1000000000) (hr : IsRn g d s h) :
    Fn Tryd.prog 71 [.pointer (some ⟨g, 0, .none⟩)] h R (fun v h' => v = .bool (bV d s) ∧ IsRn g d (bN d s) h') := RBool_ok R g d s.1 s.2.1 s.2.2 h ho (by omega) hr
theorem RSm (R : Rd) {g : Nat} {d : Str} {s : RS} {h : Hp} (ho : s.1 ≤ d.length) (hd : d.length ≤ 1000000000) (hr : IsRn g d s h) :
    Fn Tryd.prog 91 [.pointer (some ⟨g, 0, .none⟩)] h R (fun v h' => v = .string ⟨⟨sV d s⟩⟩ ∧ IsRn g d (sN d s) h') := RSum_ok R g d s.1 s.2.1 s.2.2 h ho hd hr
theorem RT (R : Rd) {g : Nat} {d : Str} {s : RS} {h : Hp} (ho : s.1 ≤ d.length) (hd : d.length ≤ 1000000000) (hr : IsRn g d s h) :
    Fn Tryd.prog 92 [.pointer (some ⟨g, 0, .none⟩), .int .i64 32] h R (fun v h' => v = .string ⟨⟨tV d s⟩⟩ ∧ IsRn g d (tN d s) h') := RText_ok R g d s.1 s.2.1 s.2.2 h 32 (by omega) ho hd hr

set_option maxRecDepth 100000 in
set_option maxHeartbeats 4000000 in
theorem read_ok (R : Rd) {g : Nat} {d : Str} {s : RS} {h : Hp} (ho : s.1 ≤ d.length) (hd : d.length ≤ 1000000000) (hr : IsRn g d s h) :
    Fn Tryd.prog 70 [.pointer (some ⟨g, 0, .none⟩)] h R (fun v h' => v = .agg ⟨(rV d s).cells⟩ ∧ IsRn g d (rN d s) h') := by
  have o1 : (r1 d s).1 ≤ d.length := uN_le ho
  have o2 : (r2 d s).1 ≤ d.length := uN_le o1
  have o3 : (r3 d s).1 ≤ d.length := uN_le o2
  have o4 : (r4 d s).1 ≤ d.length := sN_le o3
  have o5 : (r5 d s).1 ≤ d.length := uN_le o4
  have o6 : (r6 d s).1 ≤ d.length := uN_le o5
  have o7 : (r7 d s).1 ≤ d.length := uN_le o6
  have o8 : (r8 d s).1 ≤ d.length := uN_le o7
  obtain ⟨A, k, cap, xs, rfl, hk, hx, hg⟩ := hr
  refine fn_of_vc mixed tabOk Tryd.func70 rfl (by kernel_rfl) (Nat.le_of_ble_eq_true rfl) ?_
  intro g2 g3
  refine ⟨[0, 0], _, RU _ ho hd ⟨A, k, cap, xs, rfl, hk, hx, hg⟩, ?_⟩
  clear hk hx hg
  rintro _ _ ⟨rfl, A, k, cap, xs, rfl, hk, hx, hg⟩
  intro z hz; obtain rfl : z = iW (uV d s) := hz
  refine ⟨rfl, rfl, 1, rfl, rfl, Nat.le_of_ble_eq_true rfl, ?_⟩
  refine ⟨[2, 2], _, RU _ o1 hd ⟨A, k, cap, xs, rfl, hk, hx, hg⟩, ?_⟩
  clear hk hx hg
  rintro _ _ ⟨rfl, A, k, cap, xs, rfl, hk, hx, hg⟩
  intro z hz; obtain rfl : z = iW (uV d (r1 d s)) := hz
  refine ⟨rfl, rfl, 1, rfl, rfl, Nat.le_of_ble_eq_true rfl, ?_⟩
  refine ⟨[2, 2], _, RU _ o2 hd ⟨A, k, cap, xs, rfl, hk, hx, hg⟩, ?_⟩
  clear hk hx hg
  rintro _ _ ⟨rfl, A, k, cap, xs, rfl, hk, hx, hg⟩
  intro z hz; obtain rfl : z = iW (uV d (r2 d s)) := hz
  refine ⟨rfl, rfl, 1, rfl, rfl, Nat.le_of_ble_eq_true rfl, ?_⟩
  refine ⟨[2, 2], _, RSm _ o3 hd ⟨A, k, cap, xs, rfl, hk, hx, hg⟩, ?_⟩
  clear hk hx hg
  rintro _ _ ⟨rfl, A, k, cap, xs, rfl, hk, hx, hg⟩
  refine ⟨rfl, rfl, 1, rfl, rfl, Nat.le_of_ble_eq_true rfl, ?_⟩
  refine ⟨[2, 2], _, RU _ o4 hd ⟨A, k, cap, xs, rfl, hk, hx, hg⟩, ?_⟩
  clear hk hx hg
  rintro _ _ ⟨rfl, A, k, cap, xs, rfl, hk, hx, hg⟩
  intro z hz; obtain rfl : z = iW (uV d (r4 d s)) := hz
  refine ⟨rfl, rfl, 1, rfl, rfl, Nat.le_of_ble_eq_true rfl, ?_⟩
  refine ⟨[2, 2], _, RU _ o5 hd ⟨A, k, cap, xs, rfl, hk, hx, hg⟩, ?_⟩
  clear hk hx hg
  rintro _ _ ⟨rfl, A, k, cap, xs, rfl, hk, hx, hg⟩
  intro z hz; obtain rfl : z = iW (uV d (r5 d s)) := hz
  refine ⟨rfl, rfl, 1, rfl, rfl, Nat.le_of_ble_eq_true rfl, ?_⟩
  refine ⟨[2, 2], _, RU _ o6 hd ⟨A, k, cap, xs, rfl, hk, hx, hg⟩, ?_⟩
  clear hk hx hg
  rintro _ _ ⟨rfl, A, k, cap, xs, rfl, hk, hx, hg⟩
  intro z hz; obtain rfl : z = iW (uV d (r6 d s)) := hz
  refine ⟨rfl, rfl, 1, rfl, rfl, Nat.le_of_ble_eq_true rfl, ?_⟩
  refine ⟨[2, 2], _, RU _ o7 hd ⟨A, k, cap, xs, rfl, hk, hx, hg⟩, ?_⟩
  clear hk hx hg
  rintro _ _ ⟨rfl, A, k, cap, xs, rfl, hk, hx, hg⟩
  intro z hz; obtain rfl : z = iW (uV d (r7 d s)) := hz
  refine ⟨rfl, rfl, 1, rfl, rfl, Nat.le_of_ble_eq_true rfl, ?_⟩
  refine ⟨[2, 2], _, RT _ o8 hd ⟨A, k, cap, xs, rfl, hk, hx, hg⟩, ?_⟩
  clear hk hx hg
  rintro _ _ ⟨rfl, A, k, cap, xs, rfl, hk, hx, hg⟩
  refine ⟨rfl, rfl, 1, rfl, rfl, Nat.le_of_ble_eq_true rfl, ?_⟩
  refine ⟨(rV d s).cells, rdBlk 1 rfl, rfl, ?_⟩
  refine ⟨rfl, rfl, 0, rfl, rfl, Nat.le_of_ble_eq_true rfl, ?_⟩
  refine ⟨(rV d s).cells, rdBlk 0 rfl, rfl, ?_⟩
  exact ⟨_, Ent.pick [2, 2] rfl, rfl, A, k, cap, xs, rfl, hk, hx, hg⟩

end Go.Proofs.YtbgfnofjnbpdgaaDoor
