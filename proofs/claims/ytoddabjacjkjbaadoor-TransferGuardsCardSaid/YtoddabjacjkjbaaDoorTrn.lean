/-
  Transfer: the shapes of the laws' arguments; the law TransferHeads.
-/
import Derived.Test.YtoddabjacjkjbaaDoorTrm
namespace Go.Proofs.YtoddabjacjkjbaaDoor
open Go Go.RowKit
set_option linter.unusedVariables false

abbrev IdShp : Shp := .fc 0 1 .str (.fc 1 1 (.int .i64) (.f0 2))
abbrev HdShp : Shp := .fc 0 2 IdShp (.fc 2 1 (.int .i64) (.fc 3 1 (.sl 1 .str) (.f0 4)))
abbrev PtShp : Shp := .fc 0 2 IdShp (.fc 2 1 (.int .i64) (.fc 3 1 (.sl 1 (.int .u8)) (.fc 4 1 (.sl 1 .str) (.f0 5))))
abbrev PcShp : Shp := .fc 0 2 IdShp (.fc 2 1 (.sl 1 (.int .u8)) (.fc 3 1 (.sl 1 .str) (.f0 4)))
theorem seen_sl {R : Rd} {sz : Nat} {e : Shp} {cs : List Value} (h : Seen R (.sl sz e) cs) : ∃ v, cs = [v] ∧ SeenV R (.sl sz e) v := by
  have h' := h
  rcases h' with rfl | ⟨a, n, cap, rfl, _⟩
  · exact ⟨_, rfl, h, fun _ e => by cases e⟩
  · exact ⟨_, rfl, h, fun _ e => by cases e⟩
theorem i64_rng {n : Int} (w : (Lit.int .i64 n).wf = true) : -9223372036854775808 ≤ n ∧ n ≤ 9223372036854775807 := by simpa [Lit.wf, IntKind.has, IntKind.min, IntKind.max, IntKind.bits, IntKind.signed] using w
theorem SeenV.bsV {R : Rd} {v : Value} (h : SeenV R (.sl 1 (.int .u8)) v) : ∃ l : Str, l.length ≤ maxLen ∧ Bs R v l := by
  obtain ⟨l, A, cap, rfl, hl, hc, hs⟩ := h.bytesCap
  exact ⟨l, hl, A, cap, rfl, hc, hs⟩
structure I64 (n : Int) : Prop where
  lo : -9223372036854775808 ≤ n
  hi : n ≤ 9223372036854775807
theorem Hd.of {R : Rd} {xs : List Value} (hs : Seen R HdShp xs) : ∃ (h : Hd) (B : Value), xs = hdC h B ∧ Ss R B h.sums ∧ I64 h.ix ∧ I64 h.sz ∧ h.sums.length ≤ maxLen ∧ (∀ s ∈ h.sums, s.length ≤ maxLen) := by
  obtain ⟨⟨⟨x0, e0, _⟩, ⟨n1, e1, w1⟩, hl2⟩, ⟨n2, e2, w2⟩, hsl, hl⟩ := hs
  obtain ⟨v, e3, hv⟩ := seen_sl hsl
  match xs, hl with
  | [v0, v1, v2, v3], _ =>
    simp only [List.drop_zero, List.drop_succ_cons, List.take_succ_cons, List.take_zero, List.cons.injEq, and_true] at e0 e1 e2 e3
    subst e0 e1 e2 e3
    obtain ⟨⟨x0⟩⟩ := x0
    obtain ⟨l, hl, hss, hsm⟩ := hv.strings
    exact ⟨⟨x0, n1, n2, l⟩, _, rfl, hss, ⟨(i64_rng w1).1, (i64_rng w1).2⟩, ⟨(i64_rng w2).1, (i64_rng w2).2⟩, hl, hsm⟩
theorem Pt.of {R : Rd} {xs : List Value} (hs : Seen R PtShp xs) : ∃ (p : Pt) (D B : Value), xs = ptC p D B ∧ Bs R D p.dt ∧ Ss R B p.path ∧ I64 p.ix ∧ I64 p.off ∧ p.dt.length ≤ maxLen ∧ p.path.length ≤ maxLen := by
  obtain ⟨⟨⟨x0, e0, _⟩, ⟨n1, e1, w1⟩, hl2⟩, ⟨n2, e2, w2⟩, hsd, hsl, hl⟩ := hs
  obtain ⟨d, e3, hdv⟩ := seen_sl hsd
  obtain ⟨v, e4, hv⟩ := seen_sl hsl
  match xs, hl with
  | [v0, v1, v2, v3, v4], _ =>
    simp only [List.drop_zero, List.drop_succ_cons, List.take_succ_cons, List.take_zero, List.cons.injEq, and_true] at e0 e1 e2 e3 e4
    subst e0 e1 e2 e3 e4
    obtain ⟨⟨x0⟩⟩ := x0
    obtain ⟨l, hl, hss, _⟩ := hv.strings
    obtain ⟨b, hbl, hbs⟩ := hdv.bsV
    exact ⟨⟨x0, n1, n2, b, l⟩, _, _, rfl, hbs, hss, ⟨(i64_rng w1).1, (i64_rng w1).2⟩, ⟨(i64_rng w2).1, (i64_rng w2).2⟩, hbl, hl⟩
theorem Pc.of {R : Rd} {xs : List Value} (hs : Seen R PcShp xs) : ∃ (p : Pc) (D B : Value), xs = pcC p D B ∧ Bs R D p.dt ∧ Ss R B p.sums ∧ I64 p.ix ∧ p.dt.length ≤ maxLen ∧ p.sums.length ≤ maxLen := by
  obtain ⟨⟨⟨x0, e0, _⟩, ⟨n1, e1, w1⟩, hl2⟩, hsd, hsl, hl⟩ := hs
  obtain ⟨d, e3, hdv⟩ := seen_sl hsd
  obtain ⟨v, e4, hv⟩ := seen_sl hsl
  match xs, hl with
  | [v0, v1, v3, v4], _ =>
    simp only [List.drop_zero, List.drop_succ_cons, List.take_succ_cons, List.take_zero, List.cons.injEq, and_true] at e0 e1 e3 e4
    subst e0 e1 e3 e4
    obtain ⟨⟨x0⟩⟩ := x0
    obtain ⟨l, hl, hss, _⟩ := hv.strings
    obtain ⟨b, hbl, hbs⟩ := hdv.bsV
    exact ⟨⟨x0, n1, b, l⟩, _, _, rfl, hbs, hss, ⟨(i64_rng w1).1, (i64_rng w1).2⟩, hbl, hl⟩
theorem SeenV.hdV {R : Rd} {v : Value} (h : SeenV R HdShp v) : ∃ (h : Hd) (B : Value), v = .agg ⟨hdC h B⟩ ∧ Ss R B h.sums ∧ I64 h.ix ∧ I64 h.sz ∧ h.sums.length ≤ maxLen ∧ (∀ s ∈ h.sums, s.length ≤ maxLen) := by
  obtain ⟨h, ⟨cs⟩, rfl⟩ := h
  obtain ⟨x, B, e, hx⟩ := Hd.of h
  have e : cs = hdC x B := e
  subst e
  exact ⟨x, B, rfl, hx⟩
theorem SeenV.ptV {R : Rd} {v : Value} (h : SeenV R PtShp v) : ∃ (p : Pt) (D B : Value), v = .agg ⟨ptC p D B⟩ ∧ Bs R D p.dt ∧ Ss R B p.path ∧ I64 p.ix ∧ I64 p.off ∧ p.dt.length ≤ maxLen ∧ p.path.length ≤ maxLen := by
  obtain ⟨h, ⟨cs⟩, rfl⟩ := h
  obtain ⟨x, D, B, e, hx⟩ := Pt.of h
  have e : cs = ptC x D B := e
  subst e
  exact ⟨x, D, B, rfl, hx⟩
theorem SeenV.pcV {R : Rd} {v : Value} (h : SeenV R PcShp v) : ∃ (p : Pc) (D B : Value), v = .agg ⟨pcC p D B⟩ ∧ Bs R D p.dt ∧ Ss R B p.sums ∧ I64 p.ix ∧ p.dt.length ≤ maxLen ∧ p.sums.length ≤ maxLen := by
  obtain ⟨h, ⟨cs⟩, rfl⟩ := h
  obtain ⟨x, D, B, e, hx⟩ := Pc.of h
  have e : cs = pcC x D B := e
  subst e
  exact ⟨x, D, B, rfl, hx⟩

end Go.Proofs.YtoddabjacjkjbaaDoor
