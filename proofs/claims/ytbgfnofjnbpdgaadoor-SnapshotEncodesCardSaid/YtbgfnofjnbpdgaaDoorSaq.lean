/-
  Contract: Decode of a log.
-/
import Derived.Test.YtbgfnofjnbpdgaaDoorSap
namespace Go.Proofs.YtbgfnofjnbpdgaaDoor
open Go Go.RowKit
set_option linter.unusedVariables false

theorem find_own (R : Rd) {g r : Nat} {st : List WR} {c : Nat} (hok : LogOk st c) (w : Int) {i : Nat} (hi : i < (chainOf st w).length) (hn : (chainOf st w).length ≤ 1000000) :
    Fn Tryd.prog 72 [.pointer (some ⟨g, 0, .none⟩), .int .i64 w, .int .i64 ((i : Int) + 1)] (logH g r st c) R
      (fun v h => ∃ a X b qa, st = a ++ X :: b ∧ X.w = w ∧ (∀ y ∈ a, y.w ≠ w) ∧ X.A = some ⟨qa, 0, .none⟩ ∧ v = .pointer (some ⟨qa, i * 12, .none⟩) ∧ h = logS g r a X b c) := by
  by_cases hx : ∃ x ∈ st, x.w = w
  case neg => rw [chainOf_none (fun x hm e => hx ⟨x, hm, e⟩)] at hi; cases hi
  obtain ⟨a, X, b, rfl, hw, ha⟩ := wr_split hx
  have hcx : chainOf (a ++ X :: b) w = X.l := chainOf_mid hw ha
  rw [hcx] at hi hn
  obtain ⟨qa, hA⟩ := growA (hok.gr X (by simp)) (by omega)
  refine Fn.pre (logS_out g r a X b c) (Fn.pre (h0 := [logM r (a ++ X :: b) c] ++ [.blk g 77 [.map (some r)], X.row.ha, .rows (rowsOf (a ++ b))]) (Ent.pick [1, 0, 0, 0] (by exact rfl)) (Fn.ent (Fn.frame (find_hit (R := RH R [.blk g 77 [.map (some r)], X.row.ha, .rows (rowsOf (a ++ b))]) (ld 0 rfl rfl) w _ hw ha (by omega) (by omega) (by omega) hA)) ?_))
  rintro _ _ ⟨_, rfl, rfl, rfl⟩
  have hin : ((i : Int) + 1 - 1).toNat = i := by omega
  refine ⟨logS g r a X b c, Ent.pick [0, 2, 0, 0] rfl, a, X, b, qa, rfl, hw, ha, hA, ?_, rfl⟩
  rw [hin, (addA_rec qa i 0).1]

theorem iW_rng (n : Nat) : -9223372036854775808 ≤ iW n ∧ iW n ≤ 9223372036854775807 := by
  unfold iW; rw [IntKind.wrap_i64]; omega
theorem sV_le (d : Str) (s : RS) : (sV d s).length ≤ 32 := by
  unfold sV sumD
  split
  · split
    · exact Nat.zero_le _
    · show ((d.drop s.1).take 32).length ≤ 32; rw [List.length_take]; omega
  · exact Nat.zero_le _
theorem tV_le (d : Str) (s : RS) (hd : d.length ≤ 1000000000) : (tV d s).length ≤ 1000000000 := by
  have hl : (limD 32 (d.drop s.1)).2.1 ≤ 32 := by
    unfold limD
    cases dec (d.drop s.1) with
    | none => exact Nat.zero_le _
    | some p =>
      obtain ⟨n, r⟩ := p
      show (if max (32 : Int) 0 < (n : Int) then ((2 : Int), 0, []) else (0, n, r)).2.1 ≤ 32
      by_cases hm : max (32 : Int) 0 < (n : Int)
      · rw [if_pos hm]; exact Nat.zero_le _
      · rw [if_neg hm]; show n ≤ 32; omega
  unfold tV blkD
  split
  · split
    · split
      · exact Nat.zero_le _
      · show (List.take _ _).length ≤ _; rw [List.length_take]; omega
    · exact Nat.zero_le _
  · exact Nat.zero_le _
theorem dX_ok (d : Str) (s : RS) (hd : d.length ≤ 1000000000) : (dX d s).Ok := by
  have h := iW_rng
  have h4 := sV_le d (r3 d s)
  have h9 := tV_le d (r8 d s) hd
  exact ⟨(h _).1, (h _).2, (h _).1, (h _).2, (h _).1, (h _).2, by show (sV d (r3 d s)).length ≤ _; omega, (h _).1, (h _).2, (h _).1, (h _).2, (h _).1, (h _).2, (h _).1, (h _).2, by show (tV d (r8 d s)).length ≤ _; omega⟩

/-- A log, or ErrSyntax. -/
def Dec (d : Str) (v : Value) (h : Hp) : Prop :=
  (v = .tuple ⟨[.pointer .none, .int .i64 3]⟩ ∧ h = [] ∧ Bad d) ∨
  ∃ g C, v = .tuple ⟨[.pointer (some ⟨g, 0, .none⟩), .int .i64 0]⟩ ∧ LogIs g C h ∧ GoodC C ∧ countC C ≤ 4096 ∧ encL (flatC C) = d ∧ ∀ C0, GoodC C0 → countC C0 ≤ 4096 → d = encL (flatC C0) → C = C0

set_option maxRecDepth 100000 in
set_option maxHeartbeats 16000000 in
theorem Decode_ok (R : Rd) (hG : ShaG R) {A0 : Option Addr} {cap0 : Nat} {d : Str} (hd : d.length ≤ 1000000000) (hb : BsR R (.slice A0 d.length cap0) d) :
    Fn Tryd.prog 34 [.slice A0 d.length cap0] [] R (Dec d) := by
  obtain ⟨hst, hlim⟩ := DI.start d hd
  refine fn_of_vc mixed tabOk Tryd.func34 rfl (by kernel_rfl) (Nat.le_of_ble_eq_true rfl) ?_
  refine ⟨[], _, NewReader_ok _ _ d (by omega) (hb.rh _), ?_⟩
  rintro _ _ ⟨gr, rfl, A, kk, cap, xs, rfl, hk, hx, hg⟩
  refine ⟨[], _, New_okS _, ?_⟩
  rintro _ _ ⟨g, rfl, r, st, c, hlok, hch, rfl⟩
  refine ⟨[0, 0], _, RCount_ok _ gr d 0 0 0 _ 4096 (by omega) (Nat.zero_le _) hd ⟨A, kk, cap, xs, rfl, hk, hx, hg⟩, ?_⟩
  clear hk hx hg
  rw [List.drop_zero, if_pos rfl]
  generalize (limD 4096 d).2.1 = n at *
  generalize nxt d 0 0 0 (limD 4096 d).1 (limD 4096 d).2.2 = s0 at *
  rintro _ _ ⟨rfl, A, kk, cap, xs, rfl, hk, hx, hg⟩
  refine ⟨[none, none, some 2, some 3, none, none, some 6, some 7, some 8, none, none, none, none, none, none, none, some 16, some 17, some 18, some 19, some 20, some 21, some 22, some 23, some 24, some 25, some 26, some 27, some 28, some 29, some 30, some 31, some 32, some 33, some 34, some 35, some 36, some 37, some 38, some 39, some 40, some 41, some 42, some 43, some 44, some 45, some 46, some 47, some 48, some 49, some 50, some 51, some 52, some 53], [6, 16], Nat × RS × Lg × Int × (Nat × List WR × Nat) × (Option Addr × Nat × Nat × List Value),
    fun ⟨k, s, C, wr, (r, st, c), (A, kk, cap, xs)⟩ => k ≤ n ∧ DI d n k s C wr ∧ (LogOk st c ∧ ∀ w, chainOf st w = C w) ∧ kk = d.length ∧ xs = BV d ∧ grow kk A, fun ⟨k, s, C, wr, _, _⟩ => [.int .i64 wr, .int .i64 k],
    fun ⟨k, s, C, wr, (r, st, c), (A, kk, cap, xs)⟩ => [.blk g 77 [.map (some r)], logM r st c, .rows (rowsOf st), .blk gr 142 [.slice A kk cap, .int .i64 s.1, .int .i64 s.2.1, .int .i64 s.2.2], .row A kk cap 5 1 xs (0, 0)],
    fun ⟨k, _⟩ => n - k, (0, s0, fun _ => [], 0, (r, st, c), (A, kk, cap, xs)), ⟨Nat.zero_le _, hst, ⟨hlok, hch⟩, hk, hx, hg⟩, ⟨rfl, rfl, trivial⟩, Ent.refl _, ?_⟩
  clear hk hx hg hlok hch hst
  rintro ⟨k, s, C, wr, ⟨r, st, c⟩, ⟨A, kk, cap, xs⟩⟩ ⟨hkn, hI, ⟨hlok, hch⟩, hk, hx, hg⟩ js
  have hI : DI d n k s C wr := hI
  have hkn : k ≤ n := hkn
  have hle := hI.le
  refine ⟨fun hb0 => ?_, fun hb0 => ?_⟩
  · have hb1 := of_decide_eq_true hb0
    have hlt : k < n := by omega
    clear hb0 hb1
    have hcnt := hI.cnt
    have hfail := hI.fail hlt
    have hstep := hI.step hlt
    refine ⟨[3, 3], _, read_ok _ hle hd ⟨A, kk, cap, xs, rfl, hk, hx, hg⟩, ?_⟩
    clear hk hx hg
    rintro _ _ ⟨rfl, A, kk, cap, xs, rfl, hk, hx, hg⟩
    intro g7
    refine ⟨rfl, rfl, 5, rfl, rfl, Nat.le_of_ble_eq_true rfl, ?_⟩
    rw [setRange_full (vs := cls (.agg ⟨(rV d s).cells⟩)) (cs := cls ti34.zero) rfl rfl]
    refine ⟨[3, 3], _, RB _ (rN_le hle) hd ⟨A, kk, cap, xs, rfl, hk, hx, hg⟩, ?_⟩
    clear hk hx hg
    rintro _ _ ⟨rfl, A, kk, cap, xs, rfl, hk, hx, hg⟩
    refine ⟨[4, 4], _, RB _ (bN_le (rN_le hle)) hd ⟨A, kk, cap, xs, rfl, hk, hx, hg⟩, ?_⟩
    clear hk hx hg
    rintro _ _ ⟨rfl, A, kk, cap, xs, rfl, hk, hx, hg⟩
    refine ⟨rfl, rfl, 3, rfl, rfl, Nat.le_of_ble_eq_true rfl, ?_⟩
    refine ⟨.int .i64 (dX d s).w, ld 3 rfl rfl, ?_⟩
    by_cases h1 : (dX d s).w < wr
    · have hbad := hfail (.inl h1)
      repeat (first | (refine ⟨fun h => ?_, fun h => ?_⟩; rotate_left 1; (focus (exfalso; (first | (with_reducible (cases h; done)) | (revert h; simp; done) | (revert h; simp; omega) | (revert h; simp [*]; done)))); clear h) | (refine ⟨fun h => ?_, fun h => ?_⟩; (focus (exfalso; (first | (with_reducible (cases h; done)) | (revert h; simp; done) | (revert h; simp; omega) | (revert h; simp [*]; done)))); clear h))
      exact ⟨_, Ent.nil _, .inl ⟨rfl, rfl, hbad⟩⟩
    have hsk := dX_ok d s hd
    repeat (first | (refine ⟨fun h => ?_, fun h => ?_⟩; rotate_left 1; (focus (exfalso; (first | (with_reducible (cases h; done)) | (revert h; simp; done) | (revert h; simp; omega) | (revert h; simp [*]; done)))); clear h) | (refine ⟨fun h => ?_, fun h => ?_⟩; (focus (exfalso; (first | (with_reducible (cases h; done)) | (revert h; simp; done) | (revert h; simp; omega) | (revert h; simp [*]; done)))); clear h))
    have hFd : dF d s = bV d (rN d s) := rfl
    cases hfo : bV d (rN d s)
    · rw [hfo] at hFd
      repeat (first | (refine ⟨fun h => ?_, fun h => ?_⟩; rotate_left 1; (focus (exfalso; (first | (with_reducible (cases h; done)) | (revert h; simp; done) | (revert h; simp; omega) | (revert h; simp [*]; done)))); clear h) | (refine ⟨fun h => ?_, fun h => ?_⟩; (focus (exfalso; (first | (with_reducible (cases h; done)) | (revert h; simp; done) | (revert h; simp; omega) | (revert h; simp [*]; done)))); clear h))
      refine ⟨(dX d s).cells, rdBlk 3 rfl, rfl, ?_⟩
      repeat (first | (refine ⟨fun h => ?_, fun h => ?_⟩; rotate_left 1; (focus (exfalso; (first | (with_reducible (cases h; done)) | (revert h; simp; done) | (revert h; simp; omega) | (revert h; simp [*]; done)))); clear h) | (refine ⟨fun h => ?_, fun h => ?_⟩; (focus (exfalso; (first | (with_reducible (cases h; done)) | (revert h; simp; done) | (revert h; simp; omega) | (revert h; simp [*]; done)))); clear h))
      refine ⟨[0, 0, 0], _, Add_ok _ (hG.rh _) ⟨r, st, c, hlok, hch, rfl⟩ hI.good (by omega) (dX d s) hsk, ?_⟩
      by_cases ha : (addC C (dX d s)).2 = 0
      case neg =>
        have hbad := hfail (.inr (.inr ha))
        generalize (addC C (dX d s)).2 = e at *
        rintro _ _ ⟨rfl, hL⟩
        repeat (first | (refine ⟨fun h => ?_, fun h => ?_⟩; rotate_left 1; (focus (exfalso; (first | (with_reducible (cases h; done)) | (revert h; simp; done) | (revert h; simp; omega) | (revert h; simp [*]; done)))); clear h) | (refine ⟨fun h => ?_, fun h => ?_⟩; (focus (exfalso; (first | (with_reducible (cases h; done)) | (revert h; simp; done) | (revert h; simp; omega) | (revert h; simp [*]; done)))); clear h))
        exact ⟨_, Ent.nil _, .inl ⟨rfl, rfl, hbad⟩⟩
      obtain ⟨hV, hq, hadd, hcl⟩ := addC_inv ha
      have hI2 := hstep h1 (fun h => by rw [hFd] at h; cases h.1) ha
      rw [ha, hadd]
      clear hlok hch
      rintro _ _ ⟨rfl, r, st, c, hlok, hch, rfl⟩
      have hlw := len_le_count hI.good.out (dX d s).w
      have hcw : chainOf st (dX d s).w = C (dX d s).w ++ [⟨(dX d s).bare, false, (dX d s).hd⟩] := by rw [hch, updC_same]
      have hfind := fun R' => find_own R' (g := g) (r := r) hlok (dX d s).w (i := (C (dX d s).w).length) (by rw [hcw, List.length_append]; show _ < _ + 1; omega) (by rw [hcw, List.length_append]; show _ + 1 ≤ _; omega)
      rw [← hq] at hfind
      repeat (first | (refine ⟨fun h => ?_, fun h => ?_⟩; rotate_left 1; (focus (exfalso; (first | (with_reducible (cases h; done)) | (revert h; simp; done) | (revert h; simp; omega) | (revert h; simp [*]; done)))); clear h) | (refine ⟨fun h => ?_, fun h => ?_⟩; (focus (exfalso; (first | (with_reducible (cases h; done)) | (revert h; simp; done) | (revert h; simp; omega) | (revert h; simp [*]; done)))); clear h))
      refine ⟨.int .i64 (dX d s).w, ld 0 rfl rfl, ?_⟩
      refine ⟨.int .i64 (dX d s).w, ld 0 rfl rfl, ?_⟩
      refine ⟨.int .i64 (dX d s).q, ld 0 rfl rfl, ?_⟩
      refine ⟨[3, 3, 3], _, hfind _, ?_⟩
      clear hfind
      rintro _ _ ⟨a, X, b, qa, rfl, hXw, hXa, hA, rfl, rfl⟩
      rw [chainOf_mid hXw hXa] at hcw
      have hgx : X.l[(C (dX d s).w).length]? = some ⟨(dX d s).bare, false, (dX d s).hd⟩ := by rw [hcw, List.getElem?_append_right (Nat.le_refl _), Nat.sub_self]; rfl
      have hxl : (C (dX d s).w).length < X.l.length := (List.getElem?_eq_some_iff.1 hgx).1
      have hD : ∀ v, chainOf (a ++ { X with l := X.l.set (C (dX d s).w).length ⟨(dX d s).bare, dF d s, (dX d s).hd⟩ } :: b) v = dC d s C v := fun v => by
        unfold dC updC
        by_cases hv : v = (dX d s).w
        · rw [if_pos hv, hv, chainOf_mid (x := { X with l := X.l.set (C (dX d s).w).length ⟨(dX d s).bare, dF d s, (dX d s).hd⟩ }) hXw hXa]
          show X.l.set _ _ = _
          rw [hcw, List.set_append_right _ _ (Nat.le_refl _), Nat.sub_self]; rfl
        · rw [if_neg hv, chainOf_other (x := { X with l := X.l.set (C (dX d s).w).length ⟨(dX d s).bare, dF d s, (dX d s).hd⟩ }) (y := X) (fun e => hv (by rw [← e, ← hXw])) (fun e => hv (by rw [← e, ← hXw])), hch]
          exact updC_other _ _ hv
      generalize (C (dX d s).w).length = i at *
      refine ⟨rfl, rfl, 5, hA, by rw [(addA_rec qa i 10).2], by rw [(addA_rec qa i 10).2]; show i * 12 + 10 + 1 ≤ (recs X.l).length; rw [recs_length]; omega, ?_⟩
      (intro z hz; obtain rfl : z = ((k + 1 : Nat) : Int) := (by first | (rw [IntKind.wrap_i64] at hz; omega) | (rw [IntKind.wrap_u64] at hz; omega) | omega); clear hz)
      refine ⟨rfl, (k + 1, dS d s, dC d s C, (dX d s).w, (r, a ++ { X with l := X.l.set i ⟨(dX d s).bare, dF d s, (dX d s).hd⟩ } :: b, c), (A, kk, cap, xs)), ⟨hlt, hI2, ⟨hlok.set (A := X.A) (cap := X.cap) (l := X.l.set i ⟨(dX d s).bare, dF d s, (dX d s).hd⟩) (by rw [List.length_set]; exact hlok.gr X (by simp)), hD⟩, hk, hx, hg⟩, by show n - (k + 1) < n - k; omega, ⟨rfl, rfl, trivial⟩, ?_, rfl⟩
      have hrow : ({ X with l := X.l.set i ⟨(dX d s).bare, dF d s, (dX d s).hd⟩ } : WR).row.ha = .row X.A X.l.length X.cap 79 12 (setRange (recs X.l) (addA (⟨qa, i * 12, .none⟩ : Addr) 10).off [.bool (dF d s)]) (0, 0) := by
        rw [(addA_rec qa i 10).2]
        show HA.row X.A (X.l.set i _).length X.cap _ 12 (recs (X.l.set i _)) _ = HA.row _ _ _ _ _ ((recs X.l).set (i * 12 + 10) _) _
        rw [List.length_set, recs_set (y := ⟨(dX d s).bare, false, (dX d s).hd⟩) (y' := ⟨(dX d s).bare, dF d s, (dX d s).hd⟩) (by decide) rfl hgx]
        rfl
      refine Ent.trans (b := logS g r a { X with l := X.l.set i ⟨(dX d s).bare, dF d s, (dX d s).hd⟩ } b c ++ [.blk gr 142 [.slice A kk cap, .int .i64 (dS d s).1, .int .i64 (dS d s).2.1, .int .i64 (dS d s).2.2], .row A kk cap 5 1 xs (0, 0)]) ?_ (Ent.app (logS_in g r a _ b c) (Ent.refl _))
      unfold logS
      rw [hrow, logM_set, hFd]
      exact Ent.pick [3, 3, 3, 3, 1, 1] rfl
    · rw [hfo] at hFd
      repeat (first | (refine ⟨fun h => ?_, fun h => ?_⟩; rotate_left 1; (focus (exfalso; (first | (with_reducible (cases h; done)) | (revert h; simp; done) | (revert h; simp; omega) | (revert h; simp [*]; done)))); clear h) | (refine ⟨fun h => ?_, fun h => ?_⟩; (focus (exfalso; (first | (with_reducible (cases h; done)) | (revert h; simp; done) | (revert h; simp; omega) | (revert h; simp [*]; done)))); clear h))
      refine ⟨.bool (dX d s).hd, ld 3 rfl rfl, ?_⟩
      repeat (first | (refine ⟨fun h => ?_, fun h => ?_⟩; rotate_left 1; (focus (exfalso; (first | (with_reducible (cases h; done)) | (revert h; simp; done) | (revert h; simp; omega) | (revert h; simp [*]; done)))); clear h) | (refine ⟨fun h => ?_, fun h => ?_⟩; (focus (exfalso; (first | (with_reducible (cases h; done)) | (revert h; simp; done) | (revert h; simp; omega) | (revert h; simp [*]; done)))); clear h))
      cases hhd : (dX d s).hd
      · repeat (first | (refine ⟨fun h => ?_, fun h => ?_⟩; rotate_left 1; (focus (exfalso; (first | (with_reducible (cases h; done)) | (revert h; simp; done) | (revert h; simp; omega) | (revert h; simp [*]; done)))); clear h) | (refine ⟨fun h => ?_, fun h => ?_⟩; (focus (exfalso; (first | (with_reducible (cases h; done)) | (revert h; simp; done) | (revert h; simp; omega) | (revert h; simp [*]; done)))); clear h))
        refine ⟨(dX d s).cells, rdBlk 3 rfl, rfl, ?_⟩
        repeat (first | (refine ⟨fun h => ?_, fun h => ?_⟩; rotate_left 1; (focus (exfalso; (first | (with_reducible (cases h; done)) | (revert h; simp; done) | (revert h; simp; omega) | (revert h; simp [*]; done)))); clear h) | (refine ⟨fun h => ?_, fun h => ?_⟩; (focus (exfalso; (first | (with_reducible (cases h; done)) | (revert h; simp; done) | (revert h; simp; omega) | (revert h; simp [*]; done)))); clear h))
        refine ⟨[0, 0, 0], _, Add_ok _ (hG.rh _) ⟨r, st, c, hlok, hch, rfl⟩ hI.good (by omega) (dX d s) hsk, ?_⟩
        by_cases ha : (addC C (dX d s)).2 = 0
        case neg =>
          have hbad := hfail (.inr (.inr ha))
          generalize (addC C (dX d s)).2 = e at *
          rintro _ _ ⟨rfl, hL⟩
          repeat (first | (refine ⟨fun h => ?_, fun h => ?_⟩; rotate_left 1; (focus (exfalso; (first | (with_reducible (cases h; done)) | (revert h; simp; done) | (revert h; simp; omega) | (revert h; simp [*]; done)))); clear h) | (refine ⟨fun h => ?_, fun h => ?_⟩; (focus (exfalso; (first | (with_reducible (cases h; done)) | (revert h; simp; done) | (revert h; simp; omega) | (revert h; simp [*]; done)))); clear h))
          exact ⟨_, Ent.nil _, .inl ⟨rfl, rfl, hbad⟩⟩
        obtain ⟨hV, hq, hadd, hcl⟩ := addC_inv ha
        have hI2 := hstep h1 (fun h => by rw [hhd] at h; cases h.2) ha
        rw [ha, hadd]
        clear hlok hch
        rintro _ _ ⟨rfl, r, st, c, hlok, hch, rfl⟩
        have hlw := len_le_count hI.good.out (dX d s).w
        have hcw : chainOf st (dX d s).w = C (dX d s).w ++ [⟨(dX d s).bare, false, (dX d s).hd⟩] := by rw [hch, updC_same]
        have hfind := fun R' => find_own R' (g := g) (r := r) hlok (dX d s).w (i := (C (dX d s).w).length) (by rw [hcw, List.length_append]; show _ < _ + 1; omega) (by rw [hcw, List.length_append]; show _ + 1 ≤ _; omega)
        rw [← hq] at hfind
        repeat (first | (refine ⟨fun h => ?_, fun h => ?_⟩; rotate_left 1; (focus (exfalso; (first | (with_reducible (cases h; done)) | (revert h; simp; done) | (revert h; simp; omega) | (revert h; simp [*]; done)))); clear h) | (refine ⟨fun h => ?_, fun h => ?_⟩; (focus (exfalso; (first | (with_reducible (cases h; done)) | (revert h; simp; done) | (revert h; simp; omega) | (revert h; simp [*]; done)))); clear h))
        refine ⟨.int .i64 (dX d s).w, ld 0 rfl rfl, ?_⟩
        refine ⟨.int .i64 (dX d s).w, ld 0 rfl rfl, ?_⟩
        refine ⟨.int .i64 (dX d s).q, ld 0 rfl rfl, ?_⟩
        refine ⟨[3, 3, 3], _, hfind _, ?_⟩
        clear hfind
        rintro _ _ ⟨a, X, b, qa, rfl, hXw, hXa, hA, rfl, rfl⟩
        rw [chainOf_mid hXw hXa] at hcw
        have hgx : X.l[(C (dX d s).w).length]? = some ⟨(dX d s).bare, false, (dX d s).hd⟩ := by rw [hcw, List.getElem?_append_right (Nat.le_refl _), Nat.sub_self]; rfl
        have hxl : (C (dX d s).w).length < X.l.length := (List.getElem?_eq_some_iff.1 hgx).1
        have hD : ∀ v, chainOf (a ++ { X with l := X.l.set (C (dX d s).w).length ⟨(dX d s).bare, dF d s, (dX d s).hd⟩ } :: b) v = dC d s C v := fun v => by
          unfold dC updC
          by_cases hv : v = (dX d s).w
          · rw [if_pos hv, hv, chainOf_mid (x := { X with l := X.l.set (C (dX d s).w).length ⟨(dX d s).bare, dF d s, (dX d s).hd⟩ }) hXw hXa]
            show X.l.set _ _ = _
            rw [hcw, List.set_append_right _ _ (Nat.le_refl _), Nat.sub_self]; rfl
          · rw [if_neg hv, chainOf_other (x := { X with l := X.l.set (C (dX d s).w).length ⟨(dX d s).bare, dF d s, (dX d s).hd⟩ }) (y := X) (fun e => hv (by rw [← e, ← hXw])) (fun e => hv (by rw [← e, ← hXw])), hch]
            exact updC_other _ _ hv
        generalize (C (dX d s).w).length = i at *
        refine ⟨rfl, rfl, 5, hA, by rw [(addA_rec qa i 10).2], by rw [(addA_rec qa i 10).2]; show i * 12 + 10 + 1 ≤ (recs X.l).length; rw [recs_length]; omega, ?_⟩
        (intro z hz; obtain rfl : z = ((k + 1 : Nat) : Int) := (by first | (rw [IntKind.wrap_i64] at hz; omega) | (rw [IntKind.wrap_u64] at hz; omega) | omega); clear hz)
        refine ⟨rfl, (k + 1, dS d s, dC d s C, (dX d s).w, (r, a ++ { X with l := X.l.set i ⟨(dX d s).bare, dF d s, (dX d s).hd⟩ } :: b, c), (A, kk, cap, xs)), ⟨hlt, hI2, ⟨hlok.set (A := X.A) (cap := X.cap) (l := X.l.set i ⟨(dX d s).bare, dF d s, (dX d s).hd⟩) (by rw [List.length_set]; exact hlok.gr X (by simp)), hD⟩, hk, hx, hg⟩, by show n - (k + 1) < n - k; omega, ⟨rfl, rfl, trivial⟩, ?_, rfl⟩
        have hrow : ({ X with l := X.l.set i ⟨(dX d s).bare, dF d s, (dX d s).hd⟩ } : WR).row.ha = .row X.A X.l.length X.cap 79 12 (setRange (recs X.l) (addA (⟨qa, i * 12, .none⟩ : Addr) 10).off [.bool (dF d s)]) (0, 0) := by
          rw [(addA_rec qa i 10).2]
          show HA.row X.A (X.l.set i _).length X.cap _ 12 (recs (X.l.set i _)) _ = HA.row _ _ _ _ _ ((recs X.l).set (i * 12 + 10) _) _
          rw [List.length_set, recs_set (y := ⟨(dX d s).bare, false, (dX d s).hd⟩) (y' := ⟨(dX d s).bare, dF d s, (dX d s).hd⟩) (by decide) rfl hgx]
          rfl
        refine Ent.trans (b := logS g r a { X with l := X.l.set i ⟨(dX d s).bare, dF d s, (dX d s).hd⟩ } b c ++ [.blk gr 142 [.slice A kk cap, .int .i64 (dS d s).1, .int .i64 (dS d s).2.1, .int .i64 (dS d s).2.2], .row A kk cap 5 1 xs (0, 0)]) ?_ (Ent.app (logS_in g r a _ b c) (Ent.refl _))
        unfold logS
        rw [hrow, logM_set, hFd]
        exact Ent.pick [3, 3, 3, 3, 1, 1] rfl
      · have hbad := hfail (.inr (.inl ⟨hFd, hhd⟩))
        repeat (first | (refine ⟨fun h => ?_, fun h => ?_⟩; rotate_left 1; (focus (exfalso; (first | (with_reducible (cases h; done)) | (revert h; simp; done) | (revert h; simp; omega) | (revert h; simp [*]; done)))); clear h) | (refine ⟨fun h => ?_, fun h => ?_⟩; (focus (exfalso; (first | (with_reducible (cases h; done)) | (revert h; simp; done) | (revert h; simp; omega) | (revert h; simp [*]; done)))); clear h))
        exact ⟨_, Ent.nil _, .inl ⟨rfl, rfl, hbad⟩⟩
  · have hb1 := of_decide_eq_false hb0
    obtain rfl : k = n := by omega
    clear hb0 hb1
    refine ⟨[3, 3], _, REnd_ok _ gr d s.1 s.2.1 s.2.2 _ ⟨A, kk, cap, xs, rfl, hk, hx, hg⟩, ?_⟩
    have hcnt := hI.cnt
    by_cases he : endE d s.1 s.2.2 = 0
    · obtain ⟨e1, e2⟩ := hI.done he
      rw [he]
      clear hk hx hg
      rintro _ _ ⟨rfl, A, kk, cap, xs, rfl, hk, hx, hg⟩
      repeat (first | (refine ⟨fun h => ?_, fun h => ?_⟩; rotate_left 1; (focus (exfalso; (first | (with_reducible (cases h; done)) | (revert h; simp; done) | (revert h; simp; omega) | (revert h; simp [*]; done)))); clear h) | (refine ⟨fun h => ?_, fun h => ?_⟩; (focus (exfalso; (first | (with_reducible (cases h; done)) | (revert h; simp; done) | (revert h; simp; omega) | (revert h; simp [*]; done)))); clear h))
      exact ⟨logH g r st c, Ent.pick [0, 0, 0] rfl, .inr ⟨g, C, rfl, ⟨r, st, c, hlok, hch, rfl⟩, hI.good, by omega, e1, e2⟩⟩
    · have hbad := hI.bad he
      generalize endE d s.1 s.2.2 = e at *
      clear hk hx hg
      rintro _ _ ⟨rfl, A, kk, cap, xs, rfl, hk, hx, hg⟩
      repeat (first | (refine ⟨fun h => ?_, fun h => ?_⟩; rotate_left 1; (focus (exfalso; (first | (with_reducible (cases h; done)) | (revert h; simp; done) | (revert h; simp; omega) | (revert h; simp [*]; done)))); clear h) | (refine ⟨fun h => ?_, fun h => ?_⟩; (focus (exfalso; (first | (with_reducible (cases h; done)) | (revert h; simp; done) | (revert h; simp; omega) | (revert h; simp [*]; done)))); clear h))
      exact ⟨_, Ent.nil _, .inl ⟨rfl, rfl, hbad⟩⟩

end Go.Proofs.YtbgfnofjnbpdgaaDoor
