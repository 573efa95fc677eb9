/-
  Transfer: the shapes of the laws' arguments; the law TransferHeads.
-/
import Derived.Test.YtnifppnpplgghaaGreatDoorTrm
namespace Go.Proofs.YtnifppnpplgghaaGreatDoor
open Go Go.RowKit
set_option linter.unusedVariables false

abbrev IdShp : Shp := .fc 0 1 .str (.fc 1 1 (.int .i64) (.f0 2))
abbrev HdShp : Shp := .fc 0 2 IdShp (.fc 2 1 (.int .i64) (.fc 3 1 (.sl 1 .str) (.f0 4)))
abbrev PtShp : Shp := .fc 0 2 IdShp (.fc 2 1 (.int .i64) (.fc 3 1 (.sl 1 (.int .u8)) (.fc 4 1 (.sl 1 .str) (.f0 5))))
abbrev PcShp : Shp := .fc 0 2 IdShp (.fc 2 1 (.sl 1 (.int .u8)) (.fc 3 1 (.sl 1 .str) (.f0 4)))
theorem seen_sl {R : Rd} {sz : Nat} {e : Shp} {cs : List Value} (h : Seen R (.sl sz e) cs) : ∃ v, cs = [v] ∧ SeenV R (.sl sz e) v := by
  have h' := h
  rcases h' with rfl | ⟨a, n, cap, rfl, _⟩
  · exact ⟨_, rfl, h, fun _ e => by cases e⟩
  · exact ⟨_, rfl, h, fun _ e => by cases e⟩
theorem i64_rng {n : Int} (w : (Lit.int .i64 n).wf = true) : -9223372036854775808 ≤ n ∧ n ≤ 9223372036854775807 := by simpa [Lit.wf, IntKind.has, IntKind.min, IntKind.max, IntKind.bits, IntKind.signed] using w
theorem SeenV.bsV {R : Rd} {v : Value} (h : SeenV R (.sl 1 (.int .u8)) v) : ∃ l : Str, l.length ≤ maxLen ∧ Bs R v l := by
  obtain ⟨l, A, cap, rfl, hl, hc, hs⟩ := h.bytesCap
  exact ⟨l, hl, A, cap, rfl, hc, hs⟩
structure I64 (n : Int) : Prop where
  lo : -9223372036854775808 ≤ n
  hi : n ≤ 9223372036854775807
theorem Hd.of {R : Rd} {xs : List Value} (hs : Seen R HdShp xs) : ∃ (h : Hd) (B : Value), xs = hdC h B ∧ Ss R B h.sums ∧ I64 h.ix ∧ I64 h.sz ∧ h.sums.length ≤ maxLen ∧ (∀ s ∈ h.sums, s.length ≤ maxLen) := by
  obtain ⟨⟨⟨x0, e0, _⟩, ⟨n1, e1, w1⟩, hl2⟩, ⟨n2, e2, w2⟩, hsl, hl⟩ := hs
  obtain ⟨v, e3, hv⟩ := seen_sl hsl
  match xs, hl with
  | [v0, v1, v2, v3], _ =>
    simp only [List.drop_zero, List.drop_succ_cons, List.take_succ_cons, List.take_zero, List.cons.injEq, and_true] at e0 e1 e2 e3
    subst e0 e1 e2 e3
    obtain ⟨⟨x0⟩⟩ := x0
    obtain ⟨l, hl, hss, hsm⟩ := hv.strings
    exact ⟨⟨x0, n1, n2, l⟩, _, rfl, hss, ⟨(i64_rng w1).1, (i64_rng w1).2⟩, ⟨(i64_rng w2).1, (i64_rng w2).2⟩, hl, hsm⟩
theorem Pt.of {R : Rd} {xs : List Value} (hs : Seen R PtShp xs) : ∃ (p : Pt) (D B : Value), xs = ptC p D B ∧ Bs R D p.dt ∧ Ss R B p.path ∧ I64 p.ix ∧ I64 p.off ∧ p.dt.length ≤ maxLen ∧ p.path.length ≤ maxLen := by
  obtain ⟨⟨⟨x0, e0, _⟩, ⟨n1, e1, w1⟩, hl2⟩, ⟨n2, e2, w2⟩, hsd, hsl, hl⟩ := hs
  obtain ⟨d, e3, hdv⟩ := seen_sl hsd
  obtain ⟨v, e4, hv⟩ := seen_sl hsl
  match xs, hl with
  | [v0, v1, v2, v3, v4], _ =>
    simp only [List.drop_zero, List.drop_succ_cons, List.take_succ_cons, List.take_zero, List.cons.injEq, and_true] at e0 e1 e2 e3 e4
    subst e0 e1 e2 e3 e4
    obtain ⟨⟨x0⟩⟩ := x0
    obtain ⟨l, hl, hss, _⟩ := hv.strings
    obtain ⟨b, hbl, hbs⟩ := hdv.bsV
    exact ⟨⟨x0, n1, n2, b, l⟩, _, _, rfl, hbs, hss, ⟨(i64_rng w1).1, (i64_rng w1).2⟩, ⟨(i64_rng w2).1, (i64_rng w2).2⟩, hbl, hl⟩
theorem Pc.of {R : Rd} {xs : List Value} (hs : Seen R PcShp xs) : ∃ (p : Pc) (D B : Value), xs = pcC p D B ∧ Bs R D p.dt ∧ Ss R B p.sums ∧ I64 p.ix ∧ p.dt.length ≤ maxLen ∧ p.sums.length ≤ maxLen := by
  obtain ⟨⟨⟨x0, e0, _⟩, ⟨n1, e1, w1⟩, hl2⟩, hsd, hsl, hl⟩ := hs
  obtain ⟨d, e3, hdv⟩ := seen_sl hsd
  obtain ⟨v, e4, hv⟩ := seen_sl hsl
  match xs, hl with
  | [v0, v1, v3, v4], _ =>
    simp only [List.drop_zero, List.drop_succ_cons, List.take_succ_cons, List.take_zero, List.cons.injEq, and_true] at e0 e1 e3 e4
    subst e0 e1 e3 e4
    obtain ⟨⟨x0⟩⟩ := x0
    obtain ⟨l, hl, hss, _⟩ := hv.strings
    obtain ⟨b, hbl, hbs⟩ := hdv.bsV
    exact ⟨⟨x0, n1, b, l⟩, _, _, rfl, hbs, hss, ⟨(i64_rng w1).1, (i64_rng w1).2⟩, hbl, hl⟩
theorem SeenV.hdV {R : Rd} {v : Value} (h : SeenV R HdShp v) : ∃ (h : Hd) (B : Value), v = .agg ⟨hdC h B⟩ ∧ Ss R B h.sums ∧ I64 h.ix ∧ I64 h.sz ∧ h.sums.length ≤ maxLen ∧ (∀ s ∈ h.sums, s.length ≤ maxLen) := by
  obtain ⟨h, ⟨cs⟩, rfl⟩ := h
  obtain ⟨x, B, e, hx⟩ := Hd.of h
  have e : cs = hdC x B := e
  subst e
  exact ⟨x, B, rfl, hx⟩
theorem SeenV.ptV {R : Rd} {v : Value} (h : SeenV R PtShp v) : ∃ (p : Pt) (D B : Value), v = .agg ⟨ptC p D B⟩ ∧ Bs R D p.dt ∧ Ss R B p.path ∧ I64 p.ix ∧ I64 p.off ∧ p.dt.length ≤ maxLen ∧ p.path.length ≤ maxLen := by
  obtain ⟨h, ⟨cs⟩, rfl⟩ := h
  obtain ⟨x, D, B, e, hx⟩ := Pt.of h
  have e : cs = ptC x D B := e
  subst e
  exact ⟨x, D, B, rfl, hx⟩
theorem SeenV.pcV {R : Rd} {v : Value} (h : SeenV R PcShp v) : ∃ (p : Pc) (D B : Value), v = .agg ⟨pcC p D B⟩ ∧ Bs R D p.dt ∧ Ss R B p.sums ∧ I64 p.ix ∧ p.dt.length ≤ maxLen ∧ p.sums.length ≤ maxLen := by
  obtain ⟨h, ⟨cs⟩, rfl⟩ := h
  obtain ⟨x, D, B, e, hx⟩ := Pc.of h
  have e : cs = pcC x D B := e
  subst e
  exact ⟨x, D, B, rfl, hx⟩

set_option maxRecDepth 100000 in
set_option maxHeartbeats 8000000 in
theorem TransferHeads_law (R : Rd) (hG : ShaG R) (v0 : Value) (s0 : SeenV R HdShp v0) : Fn Tryz.prog 5 [v0] [] R (fun v _ => v = .bool true) := by
  obtain ⟨x, B, rfl, hs, hix, hsz, hln, _⟩ := s0.hdV
  have hs' := hs
  obtain ⟨C, cc, rfl, hcc, hsr⟩ := hs'
  refine fn_of_vc mixed tabOk Tryz.func5 rfl (by kernel_rfl) (Nat.le_of_ble_eq_true rfl) ?_
  intro gb
  refine ⟨_, ld 0 rfl rfl, ?_⟩
  refine ⟨rfl, fun g1 => ?_⟩
  refine ⟨[], _, few42_ok _ .none (some ⟨g1, 0, .none⟩) 0 0 1 C x.sums.length cc (SlR.own 1 rfl rfl (.inr ⟨g1, rfl⟩)), ?_⟩
  rintro _ _ ⟨rfl, rfl⟩
  by_cases hf : x.sums.length ≤ 20 ∧ 0 ≤ 2600
  case neg =>
    rw [decide_eq_false hf]
    repeat (first | (refine ⟨fun h => ?_, fun h => ?_⟩; rotate_left 1; (focus (exfalso; (first | (with_reducible (cases h; done)) | (revert h; simp; done) | (revert h; simp; omega) | (revert h; simp [*]; done)))); clear h) | (refine ⟨fun h => ?_, fun h => ?_⟩; (focus (exfalso; (first | (with_reducible (cases h; done)) | (revert h; simp; done) | (revert h; simp; omega) | (revert h; simp [*]; done)))); clear h))
    refine ⟨[], _, awake42_ok _ (hG.rh _), ?_⟩
    rintro _ _ ⟨rfl, rfl⟩
    exact ⟨_, Ent.nil _, rfl⟩
  rw [decide_eq_true hf]
  repeat (first | (refine ⟨fun h => ?_, fun h => ?_⟩; rotate_left 1; (focus (exfalso; (first | (with_reducible (cases h; done)) | (revert h; simp; done) | (revert h; simp; omega) | (revert h; simp [*]; done)))); clear h) | (refine ⟨fun h => ?_, fun h => ?_⟩; (focus (exfalso; (first | (with_reducible (cases h; done)) | (revert h; simp; done) | (revert h; simp; omega) | (revert h; simp [*]; done)))); clear h))
  refine ⟨_, rdOff (o := 0) (n := 4) 0 rfl rfl, rfl, ?_⟩
  refine ⟨[], _, EncodeHead_ok _ x _ (hs.rh _), ?_⟩
  rintro _ _ ⟨A, cap, rfl, rfl, hg, hc⟩
  refine ⟨_, rdOff (o := 0) (n := 4) 0 rfl rfl, rfl, ?_⟩
  refine ⟨[], _, Formed_ok _ x _ (hs.rh _), ?_⟩
  rintro _ _ ⟨rfl, rfl⟩
  by_cases w : WfH x
  case neg =>
    rw [decide_eq_false w, if_neg w]
    have e0 : encHo x = [] := if_neg w
    rw [e0]
    repeat (first | (refine ⟨fun h => ?_, fun h => ?_⟩; rotate_left 1; (focus (exfalso; (first | (with_reducible (cases h; done)) | (revert h; simp; done) | (revert h; simp; omega) | (revert h; simp [*]; done)))); clear h) | (refine ⟨fun h => ?_, fun h => ?_⟩; (focus (exfalso; (first | (with_reducible (cases h; done)) | (revert h; simp; done) | (revert h; simp; omega) | (revert h; simp [*]; done)))); clear h))
    refine ⟨[], _, awake42_ok _ (hG.rh _), ?_⟩
    rintro _ _ ⟨rfl, rfl⟩
    repeat (first | (refine ⟨fun h => ?_, fun h => ?_⟩; rotate_left 1; (focus (exfalso; (first | (with_reducible (cases h; done)) | (revert h; simp; done) | (revert h; simp; omega) | (revert h; simp [*]; done)))); clear h) | (refine ⟨fun h => ?_, fun h => ?_⟩; (focus (exfalso; (first | (with_reducible (cases h; done)) | (revert h; simp; done) | (revert h; simp; omega) | (revert h; simp [*]; done)))); clear h))
    exact ⟨_, Ent.nil _, rfl⟩
  have e0 : encHo x = encH x := if_pos w
  have hle := encH_le w
  rw [decide_eq_true w, if_pos w]
  rw [e0] at hg hc ⊢
  repeat (first | (refine ⟨fun h => ?_, fun h => ?_⟩; rotate_left 1; (focus (exfalso; (first | (with_reducible (cases h; done)) | (revert h; simp; done) | (revert h; simp; omega) | (revert h; simp [*]; done)))); clear h) | (refine ⟨fun h => ?_, fun h => ?_⟩; (focus (exfalso; (first | (with_reducible (cases h; done)) | (revert h; simp; done) | (revert h; simp; omega) | (revert h; simp [*]; done)))); clear h))
  obtain ⟨hok, hhv⟩ := okH_of w
  refine ⟨[], _, DecodeHead_ok _ (encH x) _ (by omega) (SlR.own 2 rfl (by rw [BV_length, Nat.mul_one]) hg), ?_⟩
  rintro _ _ (⟨hno, _⟩ | ⟨_, D, cd, rfl, rfl, hgd, hcd⟩)
  · exact absurd hok hno
  rw [hhv] at hgd hcd ⊢
  intro g5
  refine ⟨rfl, rfl, 4, rfl, rfl, Nat.le_of_ble_eq_true rfl, ?_⟩
  refine ⟨[0,1,2], (.one 0 (.q 1 (.q 2 (.q 3 (.q 4 (.q 5 (.q 6 (.q 7 (.q 8 (.q 9 (.q 10 (.q 11 (.q 12 (.one 13 (.one 14 (.q 15 (.q 16 (.q 17 (.q 18 (.q 19 (.one 20 (.q 21 (.q 22 .nil))))))))))))))))))))))), by kernel_rfl, ?_⟩
  refine ⟨[], _, awake42_ok _ ((hG.rh _).rh _), ?_⟩
  rintro _ _ ⟨rfl, rfl⟩
  repeat (first | (refine ⟨fun h => ?_, fun h => ?_⟩; rotate_left 1; (focus (exfalso; (first | (with_reducible (cases h; done)) | (revert h; simp; done) | (revert h; simp; omega) | (revert h; simp [*]; done)))); clear h) | (refine ⟨fun h => ?_, fun h => ?_⟩; (focus (exfalso; (first | (with_reducible (cases h; done)) | (revert h; simp; done) | (revert h; simp; omega) | (revert h; simp [*]; done)))); clear h))
  refine ⟨encH x, rfl, fun j b hb => BsR.at_ (SlR.own 1 rfl (by rw [BV_length, Nat.mul_one]) hg) hb, ?_⟩
  repeat (first | (refine ⟨fun h => ?_, fun h => ?_⟩; rotate_left 1; (focus (exfalso; (first | (with_reducible (cases h; done)) | (revert h; simp; done) | (revert h; simp; omega) | (revert h; simp [*]; done)))); clear h) | (refine ⟨fun h => ?_, fun h => ?_⟩; (focus (exfalso; (first | (with_reducible (cases h; done)) | (revert h; simp; done) | (revert h; simp; omega) | (revert h; simp [*]; done)))); clear h))
  refine ⟨_, rdOff (o := 0) (n := 4) 0 rfl rfl, rfl, ?_⟩
  repeat (first | (refine ⟨fun h => ?_, fun h => ?_⟩; rotate_left 1; (focus (exfalso; (first | (with_reducible (cases h; done)) | (revert h; simp; done) | (revert h; simp; omega) | (revert h; simp [*]; done)))); clear h) | (refine ⟨fun h => ?_, fun h => ?_⟩; (focus (exfalso; (first | (with_reducible (cases h; done)) | (revert h; simp; done) | (revert h; simp; omega) | (revert h; simp [*]; done)))); clear h))
  refine ⟨[], _, rEncH_ok _ x _ w ((hs.rh _).rh _), ?_⟩
  rintro _ _ ⟨A2, cap2, rfl, rfl, hg2, hc2⟩
  repeat (first | (refine ⟨fun h => ?_, fun h => ?_⟩; rotate_left 1; (focus (exfalso; (first | (with_reducible (cases h; done)) | (revert h; simp; done) | (revert h; simp; omega) | (revert h; simp [*]; done)))); clear h) | (refine ⟨fun h => ?_, fun h => ?_⟩; (focus (exfalso; (first | (with_reducible (cases h; done)) | (revert h; simp; done) | (revert h; simp; omega) | (revert h; simp [*]; done)))); clear h))
  refine ⟨encH x, rfl, fun j b hb => BsR.at_ (SlR.own 2 rfl (by rw [BV_length, Nat.mul_one]) hg2) hb, ?_⟩
  repeat (first | (refine ⟨fun h => ?_, fun h => ?_⟩; rotate_left 1; (focus (exfalso; (first | (with_reducible (cases h; done)) | (revert h; simp; done) | (revert h; simp; omega) | (revert h; simp [*]; done)))); clear h) | (refine ⟨fun h => ?_, fun h => ?_⟩; (focus (exfalso; (first | (with_reducible (cases h; done)) | (revert h; simp; done) | (revert h; simp; omega) | (revert h; simp [*]; done)))); clear h))
  refine ⟨_, rdOff (o := 0) (n := 4) 2 rfl rfl, rfl, ?_⟩
  repeat (first | (refine ⟨fun h => ?_, fun h => ?_⟩; rotate_left 1; (focus (exfalso; (first | (with_reducible (cases h; done)) | (revert h; simp; done) | (revert h; simp; omega) | (revert h; simp [*]; done)))); clear h) | (refine ⟨fun h => ?_, fun h => ?_⟩; (focus (exfalso; (first | (with_reducible (cases h; done)) | (revert h; simp; done) | (revert h; simp; omega) | (revert h; simp [*]; done)))); clear h))
  refine ⟨_, rdOff (o := 0) (n := 4) 0 rfl rfl, rfl, ?_⟩
  repeat (first | (refine ⟨fun h => ?_, fun h => ?_⟩; rotate_left 1; (focus (exfalso; (first | (with_reducible (cases h; done)) | (revert h; simp; done) | (revert h; simp; omega) | (revert h; simp [*]; done)))); clear h) | (refine ⟨fun h => ?_, fun h => ?_⟩; (focus (exfalso; (first | (with_reducible (cases h; done)) | (revert h; simp; done) | (revert h; simp; omega) | (revert h; simp [*]; done)))); clear h))
  refine ⟨[], _, sameHead_ok _ x x _ _ (by omega) (ss_own 1 rfl hgd hcd) ((hs.rh _).rh _), ?_⟩
  rintro _ _ ⟨rfl, rfl⟩
  rw [decide_eq_true (show eqHd x x from ⟨⟨rfl, rfl⟩, rfl, rfl⟩)]
  repeat (first | (refine ⟨fun h => ?_, fun h => ?_⟩; rotate_left 1; (focus (exfalso; (first | (with_reducible (cases h; done)) | (revert h; simp; done) | (revert h; simp; omega) | (revert h; simp [*]; done)))); clear h) | (refine ⟨fun h => ?_, fun h => ?_⟩; (focus (exfalso; (first | (with_reducible (cases h; done)) | (revert h; simp; done) | (revert h; simp; omega) | (revert h; simp [*]; done)))); clear h))
  exact ⟨_, Ent.nil _, rfl⟩

end Go.Proofs.YtnifppnpplgghaaGreatDoor
