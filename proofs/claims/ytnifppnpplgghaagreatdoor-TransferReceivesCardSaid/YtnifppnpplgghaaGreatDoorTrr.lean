/-
  Transfer: what Resume reads, plain.
-/
import Derived.Test.YtnifppnpplgghaaGreatDoorTrp
namespace Go.Proofs.YtnifppnpplgghaaGreatDoor
open Go Go.RowKit
set_option linter.unusedVariables false

/-- What is left. -/
def lft (d : Str) (s : RS) : Int := ((d.length - s.1 : Nat) : Int)
def qs1 (d : Str) : RS := yN (lft d s00) d s00
def qB (d : Str) : Str := yV (lft d s00) d s00
def qs2 (d : Str) : RS := cN (lft d (qs1 d)) d (qs1 d)
def qC (d : Str) : Nat := cV (lft d (qs1 d)) d (qs1 d)
def qN (d : Str) (s : RS) : Nat → RS
  | 0 => s
  | k + 1 => yN (lft d (qN d s k)) d (qN d s k)
def qV (d : Str) (s : RS) (k : Nat) : Str := yV (lft d (qN d s k)) d (qN d s k)
def hR (d : Str) : Hd := hV (qB d) s00
def psR (d : Str) (n : Nat) : List Pt := (List.range n).map fun k => pV (qV d (qs2 d) k) s00
structure OkR (d : Str) : Prop where
  hd : okH (qB d)
  pt : ∀ k, k < qC d → okP (qV d (qs2 d) k)
  en : endE d (qN d (qs2 d) (qC d)).1 (qN d (qs2 d) (qC d)).2.2 = 0
theorem qN_le {d : Str} {s : RS} (h : s.1 ≤ d.length) : ∀ k, (qN d s k).1 ≤ d.length
  | 0 => h
  | k + 1 => yN_le (qN_le h k)
theorem psR_length (d : Str) (n : Nat) : (psR d n).length = n := by simp [psR]
theorem psR_succ (d : Str) (n : Nat) : psR d (n + 1) = psR d n ++ [pV (qV d (qs2 d) n) s00] := by simp [psR, List.range_succ]
theorem q_ok {d : Str} {s : RS} (P : Nat → Pt) : ∀ k, (∀ j, j < k → qV d s j = encP (P j)) → (qN d s k).2.2 = 0 → s.2.2 = 0 ∧ d.drop s.1 = bodyP ((List.range k).map P) ++ d.drop (qN d s k).1
  | 0, _, h => ⟨h, rfl⟩
  | k + 1, hp, h => by
    obtain ⟨h1, h2⟩ := y_ok h
    obtain ⟨g1, g2⟩ := q_ok P k (fun j hj => hp j (by omega)) h1
    refine ⟨g1, ?_⟩
    have hv : yV (lft d (qN d s k)) d (qN d s k) = encP (P k) := hp k (by omega)
    rw [hv] at h2
    rw [g2, h2, List.range_succ, List.map_append, List.map_cons, List.map_nil, bodyP_snoc]
    simp only [List.append_assoc]; rfl
theorem okR_enc {d : Str} (h : OkR d) : d = encR (hR d) (psR d (qC d)) ∧ WfH (hR d) ∧ ∀ p ∈ psR d (qC d), WfP p := by
  obtain ⟨h1, h2⟩ := endE_zero h.en
  obtain ⟨h3, h4⟩ := q_ok (fun k => pV (qV d (qs2 d) k) s00) (qC d) (fun j hj => okP_enc (h.pt j hj)) h1
  obtain ⟨h5, h6⟩ := c_ok (m := lft d (qs1 d)) (s := qs1 d) h3
  obtain ⟨h7, h8⟩ := y_ok (m := lft d s00) (s := s00) h5
  refine ⟨?_, h.hd.2, fun p hp => ?_⟩
  · have e : d = d.drop s00.1 := rfl
    rw [h2, List.append_nil] at h4
    have hb : yV (lft d s00) d s00 = encH (hR d) := okH_enc h.hd
    rw [hb] at h8
    unfold encR
    rw [psR_length]
    refine Eq.trans e (Eq.trans h8 ?_)
    congr 1; congr 1
    refine Eq.trans h6 ?_
    congr 1
  · obtain ⟨k, hk, rfl⟩ := List.mem_map.1 hp
    exact (h.pt k (List.mem_range.1 hk)).2
theorem y_mkL {d : Str} {s : RS} {x r : Str} (h : s.2.2 = 0) (hs : s.1 ≤ d.length) (hd : d.drop s.1 = num x.length ++ (x ++ r)) (hl : d.length ≤ 1000000000) : yV (lft d s) d s = x ∧ (yN (lft d s) d s).2.2 = 0 ∧ d.drop (yN (lft d s) d s).1 = r := by
  have hle := congrArg List.length hd
  rw [List.length_drop, List.length_append, List.length_append] at hle
  exact y_mk h hd (by unfold lft; omega) (by omega)
theorem q_mk {d : Str} {s : RS} {ps : List Pt} (h : s.2.2 = 0) (hs : s.1 ≤ d.length) (hl : d.length ≤ 1000000000) (hd : d.drop s.1 = bodyP ps) : ∀ k, k ≤ ps.length → (∀ j p, j < k → ps[j]? = some p → qV d s j = encP p) ∧ (qN d s k).2.2 = 0 ∧ d.drop (qN d s k).1 = bodyP (ps.drop k)
  | 0, _ => ⟨fun j p hj => by omega, h, hd⟩
  | k + 1, hk => by
    obtain ⟨g1, g2, g3⟩ := q_mk h hs hl hd k (by omega)
    have e : ps.drop k = ps[k]'(by omega) :: ps.drop (k + 1) := List.drop_eq_getElem_cons (by omega)
    rw [e, bodyP_cons] at g3
    obtain ⟨a1, a2, a3⟩ := y_mkL g2 (qN_le hs k) g3 hl
    refine ⟨fun j p hj hp => ?_, a2, a3⟩
    rcases Nat.lt_or_ge j k with hj2 | hj2
    · exact g1 j p hj2 hp
    · obtain rfl : j = k := by omega
      rw [List.getElem?_eq_getElem (by omega)] at hp
      rw [← Option.some.inj hp]
      exact a1
theorem okR_of {h : Hd} {ps : List Pt} (w : WfH h) (wp : ∀ p ∈ ps, WfP p) (hn : ps.length ≤ 1000) : OkR (encR h ps) ∧ hR (encR h ps) = h ∧ qC (encR h ps) = ps.length ∧ psR (encR h ps) (qC (encR h ps)) = ps := by
  obtain ⟨d, hdd⟩ : ∃ d, d = encR h ps := ⟨_, rfl⟩
  have hle := encH_le w
  have hbl := bodyP_le wp
  have hn1 := num_le10 (n := (encH h).length) (by omega)
  have hn2 := num_le10 (n := ps.length) (by omega)
  have hdl : d.length ≤ 1000000000 := by rw [hdd]; unfold encR; simp only [List.length_append]; omega
  rw [← hdd]
  obtain ⟨a1, a2, a3⟩ := y_mkL (d := d) (s := s00) (x := encH h) (r := num ps.length ++ bodyP ps) rfl (Nat.zero_le _) (by rw [hdd]; rfl) hdl
  have a1 : qB d = encH h := a1
  have a2 : (qs1 d).2.2 = 0 := a2
  have a3 : d.drop (qs1 d).1 = num ps.length ++ bodyP ps := a3
  have hq1 : (qs1 d).1 ≤ d.length := yN_le (Nat.zero_le _)
  have hge := bodyP_ge ps
  have hcl : (ps.length : Int) ≤ lft d (qs1 d) := by
    have := congrArg List.length a3
    rw [List.length_drop, List.length_append] at this
    unfold lft; omega
  obtain ⟨b1, b2, b3⟩ := c_mk a2 a3 hcl (by omega)
  have b1 : qC d = ps.length := b1
  have b2 : (qs2 d).2.2 = 0 := b2
  have b3 : d.drop (qs2 d).1 = bodyP ps := b3
  have hq2 : (qs2 d).1 ≤ d.length := cN_le hq1
  obtain ⟨c1, c2, c3⟩ := q_mk b2 hq2 hdl b3 ps.length (Nat.le_refl _)
  rw [List.drop_length] at c3
  obtain ⟨h1, h2⟩ := okH_of w
  have hv : ∀ j (hj : j < ps.length), qV d (qs2 d) j = encP (ps[j]'hj) := fun j hj => c1 j _ hj (List.getElem?_eq_getElem hj)
  refine ⟨⟨by rw [a1]; exact h1, fun k hk => ?_, by rw [b1]; exact endE_mk c2 c3⟩, by unfold hR; rw [a1]; exact h2, b1, ?_⟩
  · rw [b1] at hk
    rw [hv k hk]
    exact (okP_of (wp _ (List.getElem_mem _))).1
  · rw [b1]
    refine List.ext_getElem (by rw [psR_length]) fun j h1 h2 => ?_
    rw [psR_length] at h1
    simp only [psR, List.getElem_map, List.getElem_range]
    rw [hv j h1]
    exact (okP_of (wp _ (List.getElem_mem _))).2

/-! ### the parts are received one after another -/
def recAll (h : Hd) : List Slot → List Pt → Int × List Slot
  | sls, [] => (0, sls)
  | sls, p :: ps => if recvE h sls p = 0 then recAll h (recvS h sls p) ps else (recvE h sls p, sls)
theorem recAll_yes {h : Hd} {sls : List Slot} {p : Pt} {ps : List Pt} (e : recvE h sls p = 0) : recAll h sls (p :: ps) = recAll h (recvS h sls p) ps := by rw [recAll, if_pos e]
theorem recAll_no {h : Hd} {sls : List Slot} {p : Pt} {ps : List Pt} (e : recvE h sls p ≠ 0) : recAll h sls (p :: ps) = (recvE h sls p, sls) := by rw [recAll, if_neg e]
def asc : List Pt → Bool
  | a :: b :: r => decide (a.off < b.off) && asc (b :: r)
  | _ => true
def resL (h : Hd) (ps : List Pt) : Int × List Slot :=
  if rootOf h.sums = h.st then
    (if (recAll h (List.replicate (partsN h.sz.toNat) .none) ps).1 = 0 then (if asc ps = true then (0, (recAll h (List.replicate (partsN h.sz.toNat) .none) ps).2) else (3, [])) else ((recAll h (List.replicate (partsN h.sz.toNat) .none) ps).1, []))
  else (9, [])
theorem recvE_zero {h : Hd} {sls : List Slot} {p : Pt} (e : recvE h sls p = 0) : thereB h.sz p.off = true ∧ p.st = h.st ∧ p.ix = h.ix ∧ sls.getD (p.off.toNat / 512) .none = .none ∧ p = partOf h (p.off.toNat / 512) (p.dt, p.path) := by
  by_cases hn : thereB h.sz p.off = true ∧ p.st = h.st ∧ p.ix = h.ix
  case neg => rw [recvE_no hn] at e; cases e
  cases hs : sls.getD (p.off.toNat / 512) .none with
  | some x => rw [recvE_there hn hs] at e; cases e
  | none =>
    have ht := of_decide_eq_true hn.1
    exact ⟨hn.1, hn.2.1, hn.2.2, rfl, Pt.ext' hn.2.1 hn.2.2 (by show p.off = ((p.off.toNat / 512 * 512 : Nat) : Int); omega) rfl rfl⟩
theorem recAll_pres {h : Hd} : ∀ (ps : List Pt) {sls sls' : List Slot} {b : Int}, GoodR h sls → (∀ j : Nat, b ≤ ((j * 512 : Nat) : Int) → sls.getD j .none = .none) → (∀ p, ps.head? = some p → b ≤ p.off) → asc ps = true → recAll h sls ps = (0, sls') → pres h sls' = pres h sls ++ ps ∧ GoodR h sls'
  | [], sls, sls', b, gd, _, _, _, he => by
    obtain rfl : sls = sls' := (Prod.mk.inj he).2
    exact ⟨by rw [List.append_nil], gd⟩
  | p :: ps, sls, sls', b, gd, hb, hp, ha, he => by
    by_cases e : recvE h sls p = 0
    case neg => rw [recAll_no e] at he; exact absurd (Prod.mk.inj he).1 e
    rw [recAll_yes e] at he
    obtain ⟨h1, h2, h3, h4, h5⟩ := recvE_zero e
    have ht := of_decide_eq_true h1
    have hlt := there_lt gd h1
    have hbp := hp p rfl
    have hS := recvS_yes e
    have hpr := pres_set (h := h) (sls := sls) (i := p.off.toNat / 512) (x := (p.dt, p.path)) hlt (fun j hj => hb j (by omega))
    rw [← h5, ← hS] at hpr
    have hg2 := gd.recv p
    obtain ⟨g1, g2⟩ := recAll_pres ps (b := p.off + 1) hg2 (fun j hj => by
      rw [hS, getD_set hlt, if_neg (by omega)]
      exact hb j (by omega)) (fun q hq => by
      cases ps with
      | nil => cases hq
      | cons q' ps =>
        cases hq
        have := (Bool.and_eq_true _ _ ▸ ha : _ ∧ _).1
        have := of_decide_eq_true this
        omega) (by
      cases ps with
      | nil => rfl
      | cons q' ps => exact (Bool.and_eq_true _ _ ▸ ha : _ ∧ _).2) he
    exact ⟨by rw [g1, hpr, List.append_assoc]; rfl, g2⟩
theorem recAll_good {h : Hd} : ∀ (ps : List Pt) {sls : List Slot}, GoodR h sls → GoodR h (recAll h sls ps).2
  | [], sls, gd => gd
  | p :: ps, sls, gd => by
    by_cases e : recvE h sls p = 0
    · rw [recAll_yes e]; exact recAll_good ps (gd.recv p)
    · rw [recAll_no e]; exact gd
theorem resL_pres {h : Hd} {ps : List Pt} (w : WfH h) (e : (resL h ps).1 = 0) : pres h (resL h ps).2 = ps ∧ GoodR h (resL h ps).2 ∧ rootOf h.sums = h.st := by
  unfold resL at e ⊢
  by_cases hr : rootOf h.sums = h.st
  case neg => rw [if_neg hr] at e; cases e
  rw [if_pos hr] at e ⊢
  by_cases h0 : (recAll h (List.replicate (partsN h.sz.toNat) .none) ps).1 = 0
  case neg => rw [if_neg h0] at e; exact absurd e h0
  rw [if_pos h0] at e ⊢
  by_cases ha : asc ps = true
  case neg => rw [if_neg ha] at e; cases e
  rw [if_pos ha]
  have hg := GoodR.new w hr
  have hno : ∀ j : Nat, (List.replicate (partsN h.sz.toNat) (.none : Slot)).getD j .none = .none := fun j => by
    rw [List.getD_eq_getElem?_getD, List.getElem?_replicate]
    split <;> rfl
  have hs : ∀ p ∈ ps, WfP p ∨ True := fun _ _ => .inr trivial
  have hp0 : pres h (List.replicate (partsN h.sz.toNat) .none) = [] := presK_stop (i := 0) (fun j _ => hno j) _ (Nat.zero_le _)
  cases ps with
  | nil => exact ⟨hp0, hg, hr⟩
  | cons p ps =>
    obtain ⟨g1, g2⟩ := recAll_pres (p :: ps) (b := p.off) hg (fun j _ => hno j) (fun q hq => by cases hq; exact Int.le_refl _) ha (Prod.ext h0 rfl)
    rw [hp0] at g1
    exact ⟨g1, g2, hr⟩

end Go.Proofs.YtnifppnpplgghaaGreatDoor
