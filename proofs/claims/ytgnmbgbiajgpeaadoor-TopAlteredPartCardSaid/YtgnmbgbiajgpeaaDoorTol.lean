/-
  Top: the shapes of the laws' arguments.
-/
import Derived.Test.YtgnmbgbiajgpeaaDoorTok
namespace Go.Proofs.YtgnmbgbiajgpeaaDoor
open Go Go.RowKit
set_option linter.unusedVariables false
set_option linter.unusedSimpArgs false

abbrev PcShpT : Shp := .fc 0 2 (.fc 0 1 .str (.fc 1 1 (.int .i64) (.f0 2))) (.fc 2 1 (.sl 1 (.int .u8)) (.fc 3 1 (.sl 1 .str) (.f0 4)))
abbrev PtShpT : Shp := .fc 0 2 (.fc 0 1 .str (.fc 1 1 (.int .i64) (.f0 2))) (.fc 2 1 (.int .i64) (.fc 3 1 (.sl 1 (.int .u8)) (.fc 4 1 (.sl 1 .str) (.f0 5))))
theorem seenT_sl {R : Rd} {sz : Nat} {e : Shp} {cs : List Value} (h : Seen R (.sl sz e) cs) : ∃ v, cs = [v] ∧ SeenV R (.sl sz e) v := by
  have h' := h
  rcases h' with rfl | ⟨a, n, cap, rfl, _⟩
  · exact ⟨_, rfl, h, fun _ e => by cases e⟩
  · exact ⟨_, rfl, h, fun _ e => by cases e⟩
theorem i64_rngT {n : Int} (w : (Lit.int .i64 n).wf = true) : -9223372036854775808 ≤ n ∧ n ≤ 9223372036854775807 := by simpa [Lit.wf, IntKind.has, IntKind.min, IntKind.max, IntKind.bits, IntKind.signed] using w
theorem SeenV.bsT {R : Rd} {v : Value} (h : SeenV R (.sl 1 (.int .u8)) v) : ∃ l : Str, l.length ≤ maxLen ∧ Bs R v l := by
  obtain ⟨l, A, cap, rfl, hl, hc, hs⟩ := h.bytesCap
  exact ⟨l, hl, A, cap, rfl, hc, hs⟩
structure I64T (n : Int) : Prop where
  lo : -9223372036854775808 ≤ n
  hi : n ≤ 9223372036854775807
theorem PcT.of {R : Rd} {xs : List Value} (hs : Seen R PcShpT xs) : ∃ (p : Pc) (D B : Value), xs = pcC p D B ∧ Bs R D p.dt ∧ Ss R B p.sums ∧ I64T p.ix ∧ p.dt.length ≤ maxLen ∧ p.sums.length ≤ maxLen := by
  obtain ⟨⟨⟨x0, e0, _⟩, ⟨n1, e1, w1⟩, hl2⟩, hsd, hsl, hl⟩ := hs
  obtain ⟨d, e3, hdv⟩ := seenT_sl hsd
  obtain ⟨v, e4, hv⟩ := seenT_sl hsl
  match xs, hl with
  | [v0, v1, v3, v4], _ =>
    simp only [List.drop_zero, List.drop_succ_cons, List.take_succ_cons, List.take_zero, List.cons.injEq, and_true] at e0 e1 e3 e4
    subst e0 e1 e3 e4
    obtain ⟨⟨x0⟩⟩ := x0
    obtain ⟨l, hl, hss, _⟩ := hv.strings
    obtain ⟨b, hbl, hbs⟩ := hdv.bsT
    exact ⟨⟨x0, n1, b, l⟩, _, _, rfl, hbs, hss, ⟨(i64_rngT w1).1, (i64_rngT w1).2⟩, hbl, hl⟩
theorem SeenV.pcT {R : Rd} {v : Value} (h : SeenV R PcShpT v) : ∃ (p : Pc) (D B : Value), v = .agg ⟨pcC p D B⟩ ∧ Bs R D p.dt ∧ Ss R B p.sums ∧ I64T p.ix ∧ p.dt.length ≤ maxLen ∧ p.sums.length ≤ maxLen := by
  obtain ⟨h, ⟨cs⟩, rfl⟩ := h
  obtain ⟨x, D, B, e, hx⟩ := PcT.of h
  have e : cs = pcC x D B := e
  subst e
  exact ⟨x, D, B, rfl, hx⟩
theorem flatVs (l : List (Value × Str)) : (l.flatMap fun x => [x.1]) = l.map Prod.fst := by
  induction l with
  | nil => rfl
  | cons x l ih => rw [List.flatMap_cons, ih]; rfl
/-- A list of byte strings. -/
theorem SeenV.bssT {R : Rd} {v : Value} (h : SeenV R (.sl 1 (.sl 1 (.int .u8))) v) : ∃ bl : List Str, bl.length ≤ maxLen ∧ Bss true R v bl ∧ ∀ x ∈ bl, x.length ≤ maxLen := by
  obtain ⟨l, hok, hl, hs⟩ := h.slice (α := Value × Str) (fun x => [x.1]) (fun x => BsX true R x.1 x.2 ∧ x.2.length ≤ maxLen) (fun _ _ => rfl) (fun xs _ hx => by
    obtain ⟨v, rfl, hv⟩ := seenT_sl hx
    obtain ⟨s, hsl, hsb⟩ := hv.bsT
    exact ⟨(v, s), ⟨hsb.x, hsl⟩, rfl⟩)
  rw [flatVs] at hs
  have hs' := hs
  obtain ⟨_, A, cap, rfl, _⟩ := hs'
  refine ⟨l.map Prod.snd, by rw [List.length_map]; exact hl, ⟨A, cap, l.map Prod.fst, by rw [List.length_map], by rw [List.length_map]; exact hs, by rw [List.length_map, List.length_map], fun i x hx => ?_⟩, fun x hx => ?_⟩
  · rw [List.getElem?_map] at hx
    cases hi : l[i]? with
    | none => rw [hi] at hx; cases hx
    | some y =>
      rw [hi] at hx
      cases hx
      exact ⟨y.1, by rw [List.getElem?_map, hi]; rfl, (hok y (List.mem_of_getElem? hi)).1⟩
  · obtain ⟨y, hy, rfl⟩ := List.mem_map.1 hx
    exact (hok y hy).2

end Go.Proofs.YtgnmbgbiajgpeaaDoor
