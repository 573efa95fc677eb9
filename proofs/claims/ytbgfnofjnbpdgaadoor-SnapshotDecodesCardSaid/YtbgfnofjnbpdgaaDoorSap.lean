/-
  Contract: Decode of a log; the law SnapshotDecodes' and SnapshotEncodes' plain parts.
-/
import Derived.Test.YtbgfnofjnbpdgaaDoorSao
import Derived.Test.YtbgfnofjnbpdgaaDoorSam
namespace Go.Proofs.YtbgfnofjnbpdgaaDoor
open Go Go.RowKit
set_option linter.unusedVariables false

/-! ### plain -/
theorem flatN_nil {C : Lg} {a n : Nat} (h : ∀ v : Nat, a ≤ v → C v = []) : flatN C a n = [] := by
  unfold flatN
  rw [List.flatMap_eq_nil_iff]
  intro v hv
  rw [List.mem_range'_1] at hv
  rw [h v hv.1]; rfl
theorem flat_snoc {C : Lg} {w : Int} (hw : 0 ≤ w ∧ w ≤ 11) (h : ∀ v : Int, w < v → C v = []) (x : Rec) : flatC (updC C w (C w ++ [x])) = flatC C ++ [x.mk'] := by
  obtain ⟨n, rfl⟩ := Int.eq_ofNat_of_zero_le hw.1
  have hn : n < 12 := by omega
  have h0 : flatN C (n + 1) (11 - n) = [] := flatN_nil fun v hv => h v (by omega)
  rw [flatC_upd C hn, flatC_split C hn, h0, List.map_append]
  simp
/-- An addition that was made. -/
theorem addC_inv {C : Lg} {s : Snap} (h : (addC C s).2 = 0) : Valid s ∧ s.q = ((C s.w).length : Int) + 1 ∧ (addC C s).1 = updC C s.w (C s.w ++ [⟨s.bare, false, s.hd⟩]) ∧ countC C < 4096 := by
  unfold addC at h ⊢
  by_cases hv : validB s = true
  case neg => rw [if_neg hv] at h; cases h
  rw [if_pos hv] at h ⊢
  by_cases h1 : s.q ≤ ((C s.w).length : Int)
  · rw [if_pos h1] at h
    exfalso
    cases hg : (C s.w)[(s.q - 1).toNat]? with
    | none => rw [hg] at h; cases h
    | some x =>
      rw [hg] at h
      by_cases h2 : x.s = s.bare
      · simp only [if_pos h2] at h; cases h
      · simp only [if_neg h2] at h; cases h
  · rw [if_neg h1] at h ⊢
    by_cases h2 : ((C s.w).length : Int) + 1 < s.q
    · rw [if_pos h2] at h; cases h
    · rw [if_neg h2] at h ⊢
      by_cases h3 : contB s (lastC (C s.w)) = true
      · rw [if_pos h3] at h ⊢
        by_cases h4 : 4096 ≤ countC C
        · rw [if_pos h4] at h; cases h
        · rw [if_neg h4]
          exact ⟨validB_iff.1 hv, by omega, rfl, by omega⟩
      · rw [if_neg h3] at h; cases h
/-- The next record of a log is added to the log of those before. -/
theorem addC_flat {C : Lg} (hC : GoodC C) (hn : countC C ≤ 4096) {k : Nat} {m : Mk} (h : (flatC C)[k]? = some m) : (addC (toC ((flatC C).take k)) m.s).2 = 0 := by
  obtain ⟨hnx, hw0, hw1, _⟩ := flat_next hC h
  have hk := (List.getElem?_eq_some_iff.1 h).1
  have hpre := toC_prefix hC k m.s.w
  have hlt : countC (toC ((flatC C).take k)) < 4096 := by
    have h1 : (flatC (toC ((flatC C).take k))).length = countC (toC ((flatC C).take k)) := flatC_length _
    have hT : GoodC (toC ((flatC C).take k)) := hC.cutBy (toC_prefix hC k)
    have hle := take_count hC k
    have hlen := flatC_length C
    by_cases he : countC (toC ((flatC C).take k)) = countC C
    · exfalso
      have h2 : (toC ((flatC C).take k) m.s.w).length < (C m.s.w).length := (List.getElem?_eq_some_iff.1 hnx).1
      have h3 : countC (updC (toC ((flatC C).take k)) m.s.w (C m.s.w)) ≤ countC C := countC_mono fun v => by
        unfold updC
        by_cases hv : v = m.s.w
        · rw [if_pos hv, hv]; exact Nat.le_refl _
        · rw [if_neg hv]; exact (toC_prefix hC k v).length_le
      have h4 := countC_upd (C := toC ((flatC C).take k)) ⟨hw0, hw1⟩ (C m.s.w)
      omega
    · omega
  obtain ⟨r1, r2, r3, r4⟩ := hC.rcd _ _ _ hnx
  have hV : Valid m.s := flat_valid2 hC m (List.mem_of_getElem? h)
  have hq : m.s.q = ((toC ((flatC C).take k) m.s.w).length : Int) + 1 := r2
  have hcont : contB m.s (lastC (toC ((flatC C).take k) m.s.w)) = true := by
    generalize hT : toC ((flatC C).take k) m.s.w = T at *
    unfold lastC
    rw [List.getLast?_eq_getElem?]
    cases hl : T.length with
    | zero =>
      have : T = [] := List.eq_nil_of_length_eq_zero hl
      rw [this]
      exact decide_eq_true (by rw [hl] at hq; omega)
    | succ j =>
      have hj : j < T.length := by omega
      have hg := List.getElem?_eq_getElem hj
      generalize T[j] = y at hg
      have hyC : (C m.s.w)[j]? = some y := by
        obtain ⟨t, ht⟩ := hpre
        rw [← ht, List.getElem?_append_left hj]; exact hg
      rw [hl] at hnx
      obtain ⟨l1, l2⟩ := hC.link _ _ _ _ hyC hnx
      have hyq := (hC.rcd _ _ _ hyC).2.1
      rw [show j + 1 - 1 = j from rfl, hg]
      show (decide (m.s.q = y.s.q + 1) && (decide (y.s.d ≤ m.s.d) && decide (m.s.pv = sumP y.s))) = true
      rw [decide_eq_true (show m.s.q = y.s.q + 1 by omega), decide_eq_true (show y.s.d ≤ m.s.d from l1), decide_eq_true (show m.s.pv = sumP y.s from l2)]; rfl
  unfold addC
  rw [if_pos (validB_iff.2 hV), if_neg (by omega), if_neg (by omega), if_pos hcont, if_neg (by omega)]

theorem flat_sorted {C : Lg} (hC : GoodC C) : (flatC C).Pairwise fun a b => a.s.w ≤ b.s.w := by
  have h : ∀ n a, (flatN C a n).Pairwise fun x y => x.s.w ≤ y.s.w := by
    intro n
    induction n with
    | zero => intro a; exact List.Pairwise.nil
    | succ n ih =>
      intro a
      rw [show n + 1 = 1 + n by omega, flatN_add, flatN_one]
      refine List.pairwise_append.2 ⟨?_, ih _, fun x hx y hy => ?_⟩
      · refine List.pairwise_of_forall_mem_list fun x hx y hy => ?_
        rw [chain_mk hC x hx, chain_mk hC y hy]; exact Int.le_refl _
      · rw [chain_mk hC x hx]
        obtain ⟨v, h1, _, _, _, _, _, h3, _⟩ := mem_flatN hC hy
        omega
  exact h 12 0

def Bad (d : Str) : Prop := ∀ C0, GoodC C0 → countC C0 ≤ 4096 → d ≠ encL (flatC C0)
/-- A log is being read: n records in all, k of them done. -/
structure DI (d : Str) (n k : Nat) (s : RS) (C : Lg) (wr : Int) : Prop where
  le : s.1 ≤ d.length
  good : GoodC C
  cnt : countC C ≤ k
  snd : s.2.2 = 0 → ∃ ms, d = num n ++ (ms.flatMap encM ++ d.drop s.1) ∧ C = toC ms ∧ flatC C = ms ∧ ms.length = k ∧ ∀ m ∈ ms, m.s.w ≤ wr
  cmp : ∀ C0, GoodC C0 → countC C0 ≤ 4096 → d = encL (flatC C0) → s.2.2 = 0 ∧ n = countC C0 ∧ d.drop s.1 = ((flatC C0).drop k).flatMap encM ∧ C = toC ((flatC C0).take k) ∧ ∀ m ∈ (flatC C0).drop k, wr ≤ m.s.w

def dX (d : Str) (s : RS) : Snap := { rV d s with hd := bV d (bN d (rN d s)) }
def dF (d : Str) (s : RS) : Bool := bV d (rN d s)
def dS (d : Str) (s : RS) : RS := bN d (bN d (rN d s))
/-- What is read if the bytes encode a log. -/
theorem d_mk {d : Str} {s : RS} {m : Mk} {r : Str} (h : s.2.2 = 0) (hv : Valid m.s) (hd : d.drop s.1 = encM m ++ r) : dX d s = m.s ∧ dF d s = m.fo ∧ (dS d s).2.2 = 0 ∧ d.drop (dS d s).1 = r := by
  unfold encM at hd
  simp only [List.append_assoc] at hd
  obtain ⟨a1, a2, a3⟩ := r_mk h hv hd
  obtain ⟨b1, b2, b3⟩ := b_mk a2 a3
  obtain ⟨c1, c2, c3⟩ := b_mk b2 b3
  refine ⟨?_, b1, c2, c3⟩
  unfold dX
  rw [a1, c1]; rfl
theorem d_ok {d : Str} {s : RS} (h : (dS d s).2.2 = 0) (hv : Valid (dX d s)) : s.2.2 = 0 ∧ d.drop s.1 = encM ⟨dX d s, dF d s⟩ ++ d.drop (dS d s).1 := by
  obtain ⟨h2, e2⟩ := b_ok h
  obtain ⟨h1, e1⟩ := b_ok h2
  obtain ⟨h0, e0⟩ := r_ok h1 (hv.hold false)
  refine ⟨h0, ?_⟩
  rw [e0, e1, e2]
  simp only [encM, List.append_assoc]; rfl
theorem DI.next {d : Str} {n k : Nat} {s : RS} {C : Lg} {wr : Int} (h : DI d n k s C wr) (hk : k < n) {C0 : Lg} (h0 : GoodC C0) (hn : countC C0 ≤ 4096) (he : d = encL (flatC C0)) :
    ∃ m, (flatC C0)[k]? = some m ∧ dX d s = m.s ∧ dF d s = m.fo ∧ (dS d s).2.2 = 0 ∧ d.drop (dS d s).1 = ((flatC C0).drop (k + 1)).flatMap encM ∧ wr ≤ m.s.w ∧ (m.fo = true → m.s.hd = false) ∧ (addC C m.s).2 = 0 ∧ ∀ y ∈ (flatC C0).drop (k + 1), m.s.w ≤ y.s.w := by
  obtain ⟨c1, c2, c3, c4, c5⟩ := h.cmp C0 h0 hn he
  have hlen := flatC_length C0
  have hkl : k < (flatC C0).length := by omega
  have hget := List.getElem?_eq_getElem hkl
  generalize (flatC C0)[k] = m at hget
  have hdrop := drop_at hget
  rw [hdrop, List.flatMap_cons] at c3
  have hV := flat_valid2 h0 m (List.mem_of_getElem? hget)
  obtain ⟨a1, a2, a3, a4⟩ := d_mk c1 hV c3
  have hs := flat_sorted h0
  rw [← List.take_append_drop k (flatC C0), hdrop] at hs
  have hs2 := (List.pairwise_append.1 hs).2.1
  refine ⟨m, hget, a1, a2, a3, a4, c5 m (by rw [hdrop]; simp), (flat_next h0 hget).2.2.2, ?_, (List.pairwise_cons.1 hs2).1⟩
  rw [c4]; exact addC_flat h0 hn hget
theorem DI.fail {d : Str} {n k : Nat} {s : RS} {C : Lg} {wr : Int} (h : DI d n k s C wr) (hk : k < n) (hf : (dX d s).w < wr ∨ (dF d s = true ∧ (dX d s).hd = true) ∨ ¬ (addC C (dX d s)).2 = 0) : Bad d := fun C0 h0 hn he => by
  obtain ⟨m, _, a1, a2, _, _, a5, a6, a7, _⟩ := h.next hk h0 hn he
  rw [a1, a2] at hf
  rcases hf with hf | ⟨hf1, hf2⟩ | hf
  · omega
  · rw [a6 hf1] at hf2; cases hf2
  · exact hf a7
def dC (d : Str) (s : RS) (C : Lg) : Lg := updC C (dX d s).w (C (dX d s).w ++ [⟨(dX d s).bare, dF d s, (dX d s).hd⟩])
theorem DI.step {d : Str} {n k : Nat} {s : RS} {C : Lg} {wr : Int} (h : DI d n k s C wr) (hk : k < n) (h1 : ¬ (dX d s).w < wr) (h2 : ¬ (dF d s = true ∧ (dX d s).hd = true)) (h3 : (addC C (dX d s)).2 = 0) : DI d n (k + 1) (dS d s) (dC d s C) (dX d s).w := by
  obtain ⟨hV, hq, hadd, hlt⟩ := addC_inv h3
  have hgood1 := h.good.add (dX d s)
  rw [hadd] at hgood1
  have hcnt1 := countC_add C (dX d s)
  rw [hadd] at hcnt1
  have hset : dC d s C = updC (updC C (dX d s).w (C (dX d s).w ++ [⟨(dX d s).bare, false, (dX d s).hd⟩])) (dX d s).w ((updC C (dX d s).w (C (dX d s).w ++ [⟨(dX d s).bare, false, (dX d s).hd⟩]) (dX d s).w).set (C (dX d s).w).length ⟨(dX d s).bare, dF d s, (dX d s).hd⟩) := by
    funext v
    unfold dC
    rw [updC_same]
    unfold updC
    by_cases hv : v = (dX d s).w
    · rw [if_pos hv, if_pos hv, List.set_append_right _ _ (Nat.le_refl _), Nat.sub_self]; rfl
    · rw [if_neg hv, if_neg hv, if_neg hv]
  have hgood2 : GoodC (dC d s C) := by
    rw [hset]
    refine GoodC.set hgood1 (y := ⟨(dX d s).bare, false, (dX d s).hd⟩) (by rw [updC_same, List.getElem?_append_right (Nat.le_refl _), Nat.sub_self]; rfl) rfl fun hf => ?_
    cases hh : (dX d s).hd with
    | false => rfl
    | true => exact absurd ⟨hf, hh⟩ h2
  refine ⟨bN_le (bN_le (rN_le h.le)), hgood2, ?_, fun he => ?_, fun C0 h0 hn he => ?_⟩
  · rw [hset, countC_set]; have := h.cnt; omega
  · obtain ⟨hs0, hdrop⟩ := d_ok he hV
    obtain ⟨ms, e1, e2, e3, e4, e5⟩ := h.snd hs0
    have hnil : ∀ v : Int, (dX d s).w < v → C v = [] := fun v hv => by
      rw [e2]
      unfold toC
      rw [List.filter_eq_nil_iff.2 fun m hm => by have := e5 m hm; simp; omega]; rfl
    refine ⟨ms ++ [⟨dX d s, dF d s⟩], ?_, ?_, ?_, by rw [List.length_append, e4]; rfl, fun m hm => ?_⟩
    · conv => lhs; rw [e1, hdrop]
      simp [List.flatMap_append]
    · rw [toC_snoc, ← e2]; rfl
    · have := flat_snoc hV.w hnil ⟨(dX d s).bare, dF d s, (dX d s).hd⟩
      unfold dC
      rw [this, e3]; rfl
    · rcases List.mem_append.1 hm with hm | hm
      · have := e5 m hm; omega
      · rw [List.mem_singleton.1 hm]; exact Int.le_refl _
  · obtain ⟨c1, c2, c3, c4, c5⟩ := h.cmp C0 h0 hn he
    obtain ⟨m, hget, a1, a2, a3, a4, a5, a6, a7, a8⟩ := h.next hk h0 hn he
    refine ⟨a3, c2, a4, ?_, ?_⟩
    · rw [toC_step hget, ← c4]
      unfold dC
      rw [a1, a2]; rfl
    · rw [a1]; exact a8
theorem DI.done {d : Str} {n : Nat} {s : RS} {C : Lg} {wr : Int} (h : DI d n n s C wr) (he : endE d s.1 s.2.2 = 0) : encL (flatC C) = d ∧ ∀ C0, GoodC C0 → countC C0 ≤ 4096 → d = encL (flatC C0) → C = C0 := by
  unfold endE at he
  by_cases h0 : s.2.2 = 0
  case neg => rw [if_neg h0] at he; exact absurd he h0
  rw [if_pos h0] at he
  have hlt : ¬ s.1 < d.length := fun hl => by rw [if_pos hl] at he; cases he
  obtain ⟨ms, e1, e2, e3, e4, e5⟩ := h.snd h0
  refine ⟨?_, fun C0 hC hn hd => ?_⟩
  · rw [List.drop_eq_nil_of_le (by omega), List.append_nil] at e1
    unfold encL
    rw [e3, e4]; exact e1.symm
  · obtain ⟨_, c2, _, c4, _⟩ := h.cmp C0 hC hn hd
    rw [c4, c2, ← flatC_length, List.take_length, toC_flat hC]
theorem DI.bad {d : Str} {n : Nat} {s : RS} {C : Lg} {wr : Int} (h : DI d n n s C wr) (he : ¬ endE d s.1 s.2.2 = 0) : Bad d := fun C0 hC hn hd => by
  obtain ⟨c1, c2, c3, c4, _⟩ := h.cmp C0 hC hn hd
  apply he
  unfold endE
  rw [if_pos c1, c2, ← flatC_length, List.drop_length] at *
  have hl : (d.drop s.1).length = 0 := by rw [c3]; rfl
  rw [List.length_drop] at hl
  rw [if_neg (by omega)]
theorem DI.start (d : Str) (hd : d.length ≤ 1000000000) : DI d (limD 4096 d).2.1 0 (nxt d 0 0 0 (limD 4096 d).1 (limD 4096 d).2.2) (fun _ => []) 0 ∧ (limD 4096 d).2.1 ≤ 4096 := by
  refine ⟨⟨nxt_le (Nat.zero_le _), GoodC.empty, Nat.le_of_eq count_empty, fun he => ?_, fun C0 hC hn he => ?_⟩, ?_⟩
  · obtain ⟨_, h2, h3⟩ := nxt_err he
    refine ⟨[], ?_, rfl, rfl, rfl, fun m hm => by cases hm⟩
    rw [h3]
    unfold limD at h2 ⊢
    cases hdc : dec d with
    | none => rw [hdc] at h2; cases h2
    | some p =>
      obtain ⟨n, r⟩ := p
      obtain ⟨e1, e2⟩ := dec_iff.1 hdc
      rw [hdc] at h2
      by_cases hm : max (4096 : Int) 0 < (n : Int)
      · simp only [if_pos hm] at h2; cases h2
      · simp only [if_neg hm]
        have := drop_rest (d := d) (o := 0) (p := num n) (r := r) (by rw [List.drop_zero]; exact e1)
        show d = num n ++ ([] ++ d.drop (d.length - r.length))
        rw [this]; exact e1
  · have hl : limD 4096 d = (0, countC C0, (flatC C0).flatMap encM) := by
      unfold limD
      have hdc : dec d = some (countC C0, (flatC C0).flatMap encM) := dec_iff.2 ⟨by rw [he]; unfold encL; rw [flatC_length], by omega⟩
      rw [hdc]
      show (if max (4096 : Int) 0 < (countC C0 : Int) then _ else _) = _
      rw [if_neg (by omega)]
    rw [hl, nxt_ok]
    refine ⟨rfl, rfl, ?_, rfl, fun m hm => (mem_flatC hC hm).1⟩
    have := drop_rest (d := d) (o := 0) (p := num (countC C0)) (r := (flatC C0).flatMap encM) (by rw [List.drop_zero, he]; unfold encL; rw [flatC_length])
    exact this
  · unfold limD
    cases dec d with
    | none => exact Nat.zero_le _
    | some p =>
      obtain ⟨n, r⟩ := p
      show (if max (4096 : Int) 0 < (n : Int) then ((2 : Int), 0, []) else (0, n, r)).2.1 ≤ 4096
      by_cases hm : max (4096 : Int) 0 < (n : Int)
      · rw [if_pos hm]; exact Nat.zero_le _
      · rw [if_neg hm]; show n ≤ 4096; omega

end Go.Proofs.YtbgfnofjnbpdgaaDoor
