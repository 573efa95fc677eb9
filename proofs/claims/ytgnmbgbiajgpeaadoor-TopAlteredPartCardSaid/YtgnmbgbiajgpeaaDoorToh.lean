/-
  Top: the contract of stripe.code.
-/
import Derived.Test.YtgnmbgbiajgpeaaDoorTog
import Derived.Test.YtgnmbgbiajgpeaaDoorTre
namespace Go.Proofs.YtgnmbgbiajgpeaaDoor
open Go Go.RowKit
set_option linter.unusedVariables false
set_option linter.unusedSimpArgs false

def sumE (x : Str) : Str := rootOf (blockLeaves 512 x)
def sumsE (l : List Str) : List Str := l.map sumE
theorem sumE_len (x : Str) : (sumE x).length = 32 := root_sum (blockLeaves_sums _ _ _ rfl)
theorem sumsE_sums (l : List Str) : sumsB (sumsE l) = true := sums_mem fun x hx => by
  obtain ⟨y, _, rfl⟩ := List.mem_map.1 hx
  exact sumE_len y
theorem sumsE_length (l : List Str) : (sumsE l).length = l.length := by simp [sumsE]
theorem sumsE_take {l : List Str} {k : Nat} {x : Str} (h : l[k]? = some x) : sumsE (l.take (k + 1)) = sumsE (l.take k) ++ [sumE x] := by
  unfold sumsE
  rw [List.take_add_one, h, List.map_append]; rfl
def pcI (l : List Str) (i : Nat) : Pc := ⟨rootOf (sumsE l), ((i : Nat) : Int), l.getD i [], sumsE l⟩
def pcsE (l : List Str) : List Pc := (List.range l.length).map (pcI l)
theorem pcsE_length (l : List Str) : (pcsE l).length = l.length := by simp [pcsE]
theorem pcsE_get {l : List Str} {i : Nat} (h : i < l.length) : (pcsE l)[i]? = some (pcI l i) := by simp [pcsE, h]
/-- A piece with its slices. -/
abbrev PcE := Pc × Value × Value
def pceC (e : PcE) : List Value := pcC e.1 e.2.1 e.2.2
structure PceR (R : Rd) (e : PcE) : Prop where
  d : Bs R e.2.1 e.1.dt
  s : Ss R e.2.2 e.1.sums
theorem PceR.mono {R R' : Rd} {e : PcE} (h : PceR R e) (hr : ∀ a v, R a v → R' a v) : PceR R' e := ⟨h.d.mono hr, h.s.mono hr⟩
/-- Pieces that are read. -/
def PcsR (R : Rd) (v : Value) (ps : List Pc) : Prop := ∃ (A : Option Addr) (cap : Nat) (l : List PcE), v = .slice A ps.length cap ∧ l.map Prod.fst = ps ∧ SlR R 4 v ps.length (l.flatMap pceC) ∧ ∀ e ∈ l, PceR R e
theorem PcsR.mono {R R' : Rd} {v : Value} {ps : List Pc} (h : PcsR R v ps) (hr : ∀ a v, R a v → R' a v) : PcsR R' v ps := by
  obtain ⟨A, cap, l, rfl, h1, h2, h3⟩ := h
  exact ⟨A, cap, l, rfl, h1, h2.mono hr, fun e he => (h3 e he).mono hr⟩
theorem PcsR.at_ {R : Rd} {A : Option Addr} {n cap : Nat} {ps : List Pc} (h : PcsR R (.slice A n cap) ps) {i : Nat} {p : Pc} (hp : ps[i]? = some p) :
    ∃ a D S, A = some a ∧ (∀ j u, (pcC p D S)[j]? = some u → R (a.add (i * 4 + j)) u) ∧ Bs R D p.dt ∧ Ss R S p.sums := by
  obtain ⟨A', cap', l, e, rfl, ⟨_, A2, c2, e2, hr⟩, hb⟩ := h
  cases e
  cases e2
  rw [List.getElem?_map] at hp
  cases hq : l[i]? with
  | none => rw [hq] at hp; cases hp
  | some q =>
    rw [hq] at hp
    cases hp
    have hm := hb q (List.mem_of_getElem? hq)
    obtain ⟨a, rfl, _⟩ := hr (i * 4 + 0) _ (flat_at (sz := 4) (c := pceC) (fun _ _ => rfl) hq (j := 0) (u := .string ⟨⟨q.1.st⟩⟩) rfl)
    refine ⟨a, q.2.1, q.2.2, rfl, fun j u hu => ?_, hm.d, hm.s⟩
    obtain ⟨a', ha, hR⟩ := hr (i * 4 + j) u (flat_at (sz := 4) (c := pceC) (fun _ _ => rfl) hq hu)
    cases ha
    exact hR

set_option maxRecDepth 100000 in
set_option maxHeartbeats 8000000 in
theorem code_ok {s : Bool} (R : Rd) (hG : ShaG R) (data total len : Nat) (bl : List Str) (v : Value) (h1 : 1 ≤ data) (h8 : data ≤ 8) (hdt : data ≤ total) (h16 : total ≤ 16) (hb1 : 1 ≤ bl.length) (hb2 : bl.length ≤ data) (hB : BlkR bl len) (hs : Bss s R v bl) :
    Fn Tryd.prog 32 [.int .i64 data, .int .i64 total, v] [] R
      (fun v h => ∃ u ids C, v = .tuple ⟨[.string ⟨⟨rootOf (sumsE (rsE data total bl len))⟩⟩, u, .int .i64 0]⟩ ∧ h = [.ro ids C] ∧ PcsR C u (pcsE (rsE data total bl len))) := by
  have hML := maxLen_eq
  have hl2 := hB.l2
  refine fn_of_vc mixed tabOk Tryd.func32 rfl (by kernel_rfl) (Nat.le_of_ble_eq_true rfl) ?_
  refine ⟨[], _, REncode_ok _ data total len bl _ h1 h8 hdt h16 hb1 hb2 hB (hs.rh _), ?_⟩
  have hcl := rsE_length data total bl len
  have hca : ∀ x ∈ rsE data total bl len, x.length = len := by
    have hpl : (padL bl data len).length = data := by unfold padL; rw [List.length_append, List.length_replicate]; omega
    refine combL_lens (rowsT_mat h8 (by omega) h16) hpl fun x hx => ?_
    rcases List.mem_append.1 hx with hx | hx
    · exact hB.all x hx
    · rw [(List.mem_replicate.1 hx).2]; unfold zerB; rw [List.length_replicate]
  generalize rsE data total bl len = cd at hcl hca ⊢
  rintro _ _ ⟨u, rfl, ids, C, rfl, hu⟩
  have hu' := hu
  obtain ⟨A0, c0, vs0, rfl, _⟩ := hu'
  rw [hcl] at hu ⊢
  repeat (first | (refine ⟨fun h => ?_, fun h => ?_⟩; rotate_left 1; (focus (exfalso; (first | (with_reducible (cases h; done)) | (revert h; simp; done) | (revert h; simp; omega) | (revert h; simp [*]; done)))); clear h) | (refine ⟨fun h => ?_, fun h => ?_⟩; (focus (exfalso; (first | (with_reducible (cases h; done)) | (revert h; simp; done) | (revert h; simp; omega) | (revert h; simp [*]; done)))); clear h))
  refine ⟨[none, none, none, none, none, none, some 6, some 7, some 8, none, none, some 11, none, some 13, some 14, some 15, none, none, none, none, none, none, none, none, none, none, none, none, none, none, none, none, some 32, some 33, some 34, some 35, some 36, some 37, some 38, some 39, some 40, some 41, some 42, some 43, some 44, some 45, some 46, some 47, some 48], [11, 32], Nat × Option Addr × Nat × List Value, fun ⟨k, A, _, xs⟩ => k ≤ total ∧ grow k A ∧ xs = SV (sumsE (cd.take k)), fun ⟨k, A, cap, _⟩ => [.slice A k cap, .int .i64 k], fun ⟨k, A, cap, xs⟩ => [.ro ids C, .row A k cap 9 1 xs (0, 0)], fun ⟨k, _⟩ => total - k,
    (0, none, 0, []), ⟨Nat.zero_le _, .inl rfl, rfl⟩, ⟨rfl, rfl, trivial⟩, Ent.nilrow _ _ _, ?_⟩
  rintro ⟨k, A, cap, xs⟩ ⟨hk, hg, hxs⟩ js
  have hk : k ≤ total := hk
  have hg : grow k A := hg
  have hxs : xs = SV (sumsE (cd.take k)) := hxs
  by_cases d : k < total
  · repeat (first | (refine ⟨fun h => ?_, fun h => ?_⟩; rotate_left 1; (focus (exfalso; (first | (with_reducible (cases h; done)) | (revert h; simp; done) | (revert h; simp; omega) | (revert h; simp [*]; done)))); clear h) | (refine ⟨fun h => ?_, fun h => ?_⟩; (focus (exfalso; (first | (with_reducible (cases h; done)) | (revert h; simp; done) | (revert h; simp; omega) | (revert h; simp [*]; done)))); clear h))
    have hx : cd[k]? = some (cd.getD k []) := by rw [List.getD_eq_getElem?_getD, List.getElem?_eq_getElem (by omega)]; rfl
    have hxl := hca _ (List.mem_of_getElem? hx)
    obtain ⟨a, B, bc, hA, hra, hbx⟩ := hu.at_ (i := k) (by omega)
    generalize cd.getD k [] = x at hx hxl hra hbx
    obtain ⟨_, _, e, hbc, hbr⟩ := hbx
    cases e
    have hbc := hbc rfl
    refine ⟨by omega, by omega, a, hA, ?_⟩
    refine ⟨_, ro_rh 0 rfl _ _ hra, ?_⟩
    refine ⟨[], _, Of_ok _ (hG.rh _) x B bc 512 (by omega) (by omega) hbc (SlR.mono hbr (ro_rh 0 rfl)), ?_⟩
    rintro _ _ ⟨rfl, rfl⟩
    rw [show ofV x 512 = (sumE x, 0) from rfl]
    repeat (first | (refine ⟨fun h => ?_, fun h => ?_⟩; rotate_left 1; (focus (exfalso; (first | (with_reducible (cases h; done)) | (revert h; simp; done) | (revert h; simp; omega) | (revert h; simp [*]; done)))); clear h) | (refine ⟨fun h => ?_, fun h => ?_⟩; (focus (exfalso; (first | (with_reducible (cases h; done)) | (revert h; simp; done) | (revert h; simp; omega) | (revert h; simp [*]; done)))); clear h))
    refine ⟨rfl, fun g2 => ?_⟩
    refine ⟨SV [sumE x], rfl, SsR.src (l := [sumE x]) (SlR.own 2 rfl rfl (.inr ⟨g2, rfl⟩)), rfl, by show (_ + 1) * 16 ≤ _; omega, by omega, .inr ⟨1, rfl, rfl, rfl, rfl, rfl, rfl, fun A' cap' hg' => ?_⟩⟩
    (intro z hz; obtain rfl : z = ((k + 1 : Nat) : Int) := (by first | (rw [IntKind.wrap_i64] at hz; omega) | (rw [IntKind.wrap_u64] at hz; omega) | omega); clear hz)
    exact ⟨rfl, (k + 1, A', cap', xs ++ SV [sumE x]), ⟨d, hg', by rw [sumsE_take hx, SV_append, hxs]⟩, by show total - (k + 1) < total - k; omega, ⟨rfl, rfl, trivial⟩, Ent.pick [0, 0] rfl, rfl⟩
  · repeat (first | (refine ⟨fun h => ?_, fun h => ?_⟩; rotate_left 1; (focus (exfalso; (first | (with_reducible (cases h; done)) | (revert h; simp; done) | (revert h; simp; omega) | (revert h; simp [*]; done)))); clear h) | (refine ⟨fun h => ?_, fun h => ?_⟩; (focus (exfalso; (first | (with_reducible (cases h; done)) | (revert h; simp; done) | (revert h; simp; omega) | (revert h; simp [*]; done)))); clear h))
    obtain rfl : k = total := by omega
    have hct : cd.take k = cd := List.take_of_length_le (by omega)
    have hsl := sumsE_length cd
    have hsz := sumsE_sums cd
    rw [hct] at hxs
    obtain ⟨ss, hss⟩ : ∃ ss, ss = sumsE cd := ⟨_, rfl⟩
    rw [← hss] at hsl hsz hxs ⊢
    subst hxs
    refine ⟨[1], _, fn_rowc 0 rfl (callable Tryd.func36 rfl (by kernel_rfl)) fun hcap _ => Fn.frame (h := []) (k := [_]) (Root_ok _ ((hG.rh _).rh _) _ ss _ rfl (wf_small (by omega) hsz) (Ss.own 0 rfl (by omega) hg hcap)), ?_⟩
    rintro _ _ ⟨hcap, _, rfl, rfl, rfl⟩
    refine ⟨[none, none, none, none, none, none, none, none, none, none, none, none, none, none, none, none, none, some 17, some 18, some 19, none, none, none, none, none, none, none, none, none, none, none, none, none, none, none, none, none, none, none, none, none, none, none, none, none, none, none, none, none, none, none, none, none, some 53, some 54, some 55, some 56, some 57, some 58, some 59, some 60, some 61, some 62, some 63, some 64, some 65, some 66, some 67, some 68, some 69], [17, 53], Nat × Option Addr × Nat × List PcE × List Nat × Rd, fun ⟨q, B, _, l, _, C2⟩ => q ≤ k ∧ grow q B ∧ l.map Prod.fst = (List.range q).map (pcI cd) ∧ ∀ e ∈ l, PceR C2 e, fun ⟨q, B, bc, _⟩ => [.slice B q bc, .int .i64 q],
      fun ⟨q, B, bc, l, ids2, C2⟩ => [.ro ids C, .row A k cap 9 1 (SV ss) (0, 0), .row B q bc 28 4 (l.flatMap pceC) (0, 0), .ro ids2 C2], fun ⟨q, _⟩ => k - q, (0, none, 0, [], [], noC),
      ⟨Nat.zero_le _, .inl rfl, rfl, fun e he => by cases he⟩, ⟨rfl, rfl, trivial⟩, (Ent.nilrow _ _ _).trans (Ent.ro0 _), ?_⟩
    rintro ⟨q, B, bc, l, ids2, C2⟩ ⟨hq, hgB, hlm, hle⟩ js2
    have hq : q ≤ k := hq
    have hgB : grow q B := hgB
    have hlm : l.map Prod.fst = (List.range q).map (pcI cd) := hlm
    have hle : ∀ e ∈ l, PceR C2 e := hle
    by_cases d2 : q < k
    · repeat (first | (refine ⟨fun h => ?_, fun h => ?_⟩; rotate_left 1; (focus (exfalso; (first | (with_reducible (cases h; done)) | (revert h; simp; done) | (revert h; simp; omega) | (revert h; simp [*]; done)))); clear h) | (refine ⟨fun h => ?_, fun h => ?_⟩; (focus (exfalso; (first | (with_reducible (cases h; done)) | (revert h; simp; done) | (revert h; simp; omega) | (revert h; simp [*]; done)))); clear h))
      have hx : cd[q]? = some (cd.getD q []) := by rw [List.getD_eq_getElem?_getD, List.getElem?_eq_getElem (by omega)]; rfl
      have hxl := hca _ (List.mem_of_getElem? hx)
      obtain ⟨a, B1, b1, hA, hra, hbx⟩ := hu.at_ (i := q) (by omega)
      have hpi : pcI cd q = ⟨rootOf ss, ((q : Nat) : Int), cd.getD q [], ss⟩ := by rw [hss]; rfl
      generalize cd.getD q [] = x at hx hxl hra hbx hpi
      refine ⟨by omega, by omega, a, hA, ?_⟩
      refine ⟨_, ro_rh 0 rfl _ _ hra, ?_⟩
      refine ⟨[], _, CloneB_ok _ x _ (by omega) ((hbx.strong).mono (ro_rh 0 rfl)), ?_⟩
      rintro _ _ ⟨DA, dc, rfl, rfl, hgD, hcD⟩
      refine ⟨[], _, CloneS_ok _ ss _ (by omega) (Ss.own 1 rfl (by omega) hg hcap), ?_⟩
      rintro _ _ ⟨SA, sc, rfl, rfl, hgS, hcS⟩
      refine ⟨rfl, fun g2 => ?_⟩
      obtain ⟨p, hp⟩ : ∃ p : Pc, p = ⟨rootOf ss, ((q : Nat) : Int), x, ss⟩ := ⟨_, rfl⟩
      refine ⟨pcC p (.slice DA x.length dc) (.slice SA ss.length sc), rfl, srcS (SlR.own 6 (by rw [hp]; rfl) rfl (.inr ⟨g2, rfl⟩)), rfl, by show (_ + 1) * 72 ≤ _; omega, by omega, .inr ⟨2, rfl, rfl, rfl, rfl, rfl, rfl, fun B' bc' hg' => ?_⟩⟩
      (intro z hz; obtain rfl : z = ((q + 1 : Nat) : Int) := (by first | (rw [IntKind.wrap_i64] at hz; omega) | (rw [IntKind.wrap_u64] at hz; omega) | omega); clear hz)
      obtain ⟨b, hb⟩ : ∃ b : Hp, b = [.ro ids2 C2, .row DA x.length dc 5 1 (BV x) (0, 0), .row SA ss.length sc 9 1 (SV ss) (0, 0), .row (some ⟨g2, 0, .none⟩) 1 1 28 4 (pcC p (.slice DA x.length dc) (.slice SA ss.length sc)) (0, 0)] := ⟨_, rfl⟩
      refine ⟨rfl, (q + 1, B', bc', l ++ [(p, .slice DA x.length dc, .slice SA ss.length sc)], idsOf b, cellsOf b), ⟨d2, hg', ?_, ?_⟩, by show k - (q + 1) < k - q; omega, ⟨rfl, rfl, trivial⟩, ?_, rfl⟩
      · rw [List.map_append, hlm, List.range_succ, List.map_append]
        show _ ++ [p] = _ ++ [pcI cd q]
        rw [hpi, hp]
      · intro e he
        rcases List.mem_append.1 he with he | he
        · exact (hle e he).mono (ro_in 0 (by rw [hb]; rfl))
        · rw [List.mem_singleton.1 he]
          have h1 : Bs (RH noC b) (.slice DA x.length dc) x := bs_own 1 (by rw [hb]; rfl) hgD hcD
          have h2 : Ss (RH noC b) (.slice SA ss.length sc) ss := ss_own 2 (by rw [hb]; rfl) hgS hcS
          refine ⟨?_, ?_⟩
          · show Bs _ _ p.dt
            rw [hp]; exact h1.mono fun _ _ => cells_rh
          · show Ss _ _ p.sums
            rw [hp]; exact h2.mono fun _ _ => cells_rh
      · rw [hb]
        show Ent _ ([.ro ids C, .row A k cap 9 1 (SV ss) (0, 0), .row B' (q + 1) bc' 28 4 ((l ++ [((p, Value.slice DA x.length dc, Value.slice SA ss.length sc) : PcE)]).flatMap pceC) (0, 0)] ++ [.ro _ _])
        rw [List.flatMap_append]
        subst hp
        exact Ent.freeze [.ro ids C, .row A k cap 9 1 (SV ss) (0, 0), .row B' (q + 1) bc' 28 4 (l.flatMap pceC ++ pcC ⟨rootOf ss, ((q : Nat) : Int), x, ss⟩ (.slice DA x.length dc) (.slice SA ss.length sc)) (0, 0)] _
    · repeat (first | (refine ⟨fun h => ?_, fun h => ?_⟩; rotate_left 1; (focus (exfalso; (first | (with_reducible (cases h; done)) | (revert h; simp; done) | (revert h; simp; omega) | (revert h; simp [*]; done)))); clear h) | (refine ⟨fun h => ?_, fun h => ?_⟩; (focus (exfalso; (first | (with_reducible (cases h; done)) | (revert h; simp; done) | (revert h; simp; omega) | (revert h; simp [*]; done)))); clear h))
      obtain rfl : q = k := by omega
      obtain ⟨b, hb⟩ : ∃ b : Hp, b = [.row B q bc 28 4 (l.flatMap pceC) (0, 0), .ro ids2 C2] := ⟨_, rfl⟩
      refine ⟨[.ro (idsOf b) (cellsOf b)], (Ent.dropr [_, _] _).trans (by rw [hb]; exact Ent.freeze [] _), _, _, _, rfl, rfl, ?_⟩
      have hpe : l.map Prod.fst = pcsE cd := by rw [hlm]; unfold pcsE; rw [hcl]
      have hpl : (pcsE cd).length = q := by rw [pcsE_length, hcl]
      have hll : l.length = q := by rw [← hpl, ← hpe, List.length_map]
      refine ⟨B, bc, l, by rw [hpl], hpe, ?_, fun e he => (hle e he).mono (ro_in 1 (by rw [hb]; rfl))⟩
      rw [hpl]
      have h3 : SlR (RH noC b) 4 (.slice B q bc) q (l.flatMap pceC) := SlR.own 0 (by rw [hb]; rfl) (by rw [flat_len (sz := 4) fun _ _ => rfl, hll]) hgB
      exact h3.mono fun _ _ => cells_rh

end Go.Proofs.YtgnmbgbiajgpeaaDoor
