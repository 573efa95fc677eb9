/-
  Contracts: Add, Forget and Hold of a log, whatever it holds.
-/
import Derived.Test.YtbgfnofjnbpdgaaDoorSnh
namespace Go.Proofs.YtbgfnofjnbpdgaaDoor
open Go Go.RowKit
set_option linter.unusedVariables false

theorem countC_eq (C : Int → List Rec) : countC C = (C 0).length + ((C 1).length + ((C 2).length + ((C 3).length + ((C 4).length + ((C 5).length + ((C 6).length + ((C 7).length + ((C 8).length + ((C 9).length + ((C 10).length + ((C 11).length + 0))))))))))) := rfl
theorem wr_cases {w : Int} (h : 0 ≤ w ∧ w ≤ 11) : w = 0 ∨ w = 1 ∨ w = 2 ∨ w = 3 ∨ w = 4 ∨ w = 5 ∨ w = 6 ∨ w = 7 ∨ w = 8 ∨ w = 9 ∨ w = 10 ∨ w = 11 := by omega
theorem len_le_count {C : Int → List Rec} (hC : ∀ w, ¬ (0 ≤ w ∧ w ≤ 11) → C w = []) (w : Int) : (C w).length ≤ countC C := by
  rw [countC_eq]
  by_cases h : 0 ≤ w ∧ w ≤ 11
  · rcases wr_cases h with rfl | rfl | rfl | rfl | rfl | rfl | rfl | rfl | rfl | rfl | rfl | rfl <;> omega
  · rw [hC w h]; exact Nat.zero_le _
theorem sum_if (f : Int → Nat) (n : Nat) (w : Int) (hw : 0 ≤ w ∧ w ≤ 11) (h0 : f w = 0) : ((if w = 0 then n else f 0) + ((if w = 1 then n else f 1) + ((if w = 2 then n else f 2) + ((if w = 3 then n else f 3) + ((if w = 4 then n else f 4) + ((if w = 5 then n else f 5) + ((if w = 6 then n else f 6) + ((if w = 7 then n else f 7) + ((if w = 8 then n else f 8) + ((if w = 9 then n else f 9) + ((if w = 10 then n else f 10) + ((if w = 11 then n else f 11) + 0)))))))))))) = n + (f 0 + (f 1 + (f 2 + (f 3 + (f 4 + (f 5 + (f 6 + (f 7 + (f 8 + (f 9 + (f 10 + (f 11 + 0)))))))))))) := by
  rcases wr_cases hw with rfl | rfl | rfl | rfl | rfl | rfl | rfl | rfl | rfl | rfl | rfl | rfl <;> (simp only [Int.reduceEq, if_true, if_false]; omega)
theorem total_count {st : List WR} (hk : (st.map WR.w).Nodup) (hr : ∀ x ∈ st, 0 ≤ x.w ∧ x.w ≤ 11) : totalW st = countC (chainOf st) := by
  induction st with
  | nil => rfl
  | cons x r ih =>
    have hk' : x.w ∉ r.map WR.w ∧ (r.map WR.w).Nodup := List.nodup_cons.1 hk
    have hz : chainOf r x.w = [] := chainOf_none fun y hy e => hk'.1 (List.mem_map.2 ⟨y, hy, e⟩)
    have e := ih hk'.2 fun y hy => hr y (by simp [hy])
    have e2 : totalW (x :: r) = x.l.length + totalW r := by simp [totalW]
    have hs : ∀ v, (chainOf (x :: r) v).length = if x.w = v then x.l.length else (chainOf r v).length := fun v => by
      show (if x.w = v then x.l else chainOf r v).length = _
      split <;> rfl
    rw [e2, e, countC_eq, countC_eq]
    simp only [hs]
    exact (sum_if (fun v => (chainOf r v).length) x.l.length x.w (hr x (by simp)) (by rw [hz]; rfl)).symm

theorem addC_eq (C : Int → List Rec) (s : Snap) : addC C s = if addE (C s.w) (countC C) s = 0 then (updC C s.w (C s.w ++ [⟨s.bare, false, s.hd⟩]), 0) else (C, addE (C s.w) (countC C) s) := by
  unfold addC addE
  by_cases h1 : validB s = true
  · rw [if_pos h1, if_pos h1]
    by_cases h2 : s.q ≤ ((C s.w).length : Int)
    · rw [if_pos h2, if_pos h2]
      cases (C s.w)[(s.q - 1).toNat]? with
      | none => rfl
      | some x =>
        by_cases h3 : x.s = s.bare
        · show (if x.s = s.bare then _ else _) = if (if x.s = s.bare then (5 : Int) else 13) = 0 then _ else (C, (if x.s = s.bare then (5 : Int) else 13))
          rw [if_pos h3, if_pos h3]; rfl
        · show (if x.s = s.bare then _ else _) = if (if x.s = s.bare then (5 : Int) else 13) = 0 then _ else (C, (if x.s = s.bare then (5 : Int) else 13))
          rw [if_neg h3, if_neg h3]; rfl
    · rw [if_neg h2, if_neg h2]
      by_cases h3 : ((C s.w).length : Int) + 1 < s.q
      · rw [if_pos h3, if_pos h3]; rfl
      · rw [if_neg h3, if_neg h3]
        by_cases h4 : contB s (lastC (C s.w)) = true
        · rw [if_pos h4, if_pos h4]
          by_cases h5 : 4096 ≤ countC C
          · rw [if_pos h5, if_pos h5]; rfl
          · rw [if_neg h5, if_neg h5]; rfl
        · rw [if_neg h4, if_neg h4]; rfl
  · rw [if_neg h1, if_neg h1]; rfl

/-- What a log holds after a change of one writer's records. -/
theorem LogIs.set {g r : Nat} {a b : List WR} {x : WR} {c : Nat} (hok : LogOk (a ++ x :: b) c) (ha : ∀ y ∈ a, y.w ≠ x.w) {A : Option Addr} {cap : Nat} {l : List Rec} (hg : grow l.length A) : LogIs g (updC (chainOf (a ++ x :: b)) x.w l) (logH g r (a ++ { x with A := A, cap := cap, l := l } :: b) c) := by
  refine ⟨r, _, c, hok.set hg, fun w => ?_, rfl⟩
  unfold updC
  by_cases hw : w = x.w
  · rw [if_pos hw, hw]
    exact chainOf_mid (x := { x with A := A, cap := cap, l := l }) rfl ha
  · rw [if_neg hw]
    exact chainOf_other (fun e => hw e.symm) (fun e => hw e.symm)
theorem LogIs.new {g r : Nat} {st : List WR} {c : Nat} (hok : LogOk st c) {n : Int} (hn : 0 ≤ n ∧ n ≤ 11) (hx : ∀ y ∈ st, y.w ≠ n) {A : Option Addr} {cap : Nat} {l : List Rec} (hg : grow l.length A) : LogIs g (updC (chainOf st) n l) (logH g r (st ++ [⟨n, A, cap, c, l⟩]) (c + 1)) := by
  refine ⟨r, _, c + 1, hok.new hn hx hg, fun w => ?_, rfl⟩
  unfold updC
  by_cases hw : w = n
  · rw [if_pos hw, hw]
    exact chainOf_mid (x := ⟨n, A, cap, c, l⟩) rfl hx
  · rw [if_neg hw]
    exact chainOf_new fun e => hw e.symm

theorem Add_ok (R : Rd) (hG : ShaG R) {g : Nat} {C : Int → List Rec} {h : Hp} (hL : LogIs g C h) (hC : GoodC C) (hn : countC C ≤ 1000000) (s : Snap) (hs : s.Ok) :
    Fn Tryd.prog 17 [.pointer (some ⟨g, 0, .none⟩), .agg ⟨s.cells⟩] h R (fun v h' => v = .int .i64 (addC C s).2 ∧ LogIs g (addC C s).1 h') := by
  obtain ⟨r, st, c, hok, hch, rfl⟩ := hL
  have hCe : chainOf st = C := funext hch
  subst hCe
  have htot := total_count hok.keys hok.rng
  have hlen := len_le_count hC.out s.w
  rw [addC_eq, ← htot]
  by_cases hx : ∃ x ∈ st, x.w = s.w
  · obtain ⟨a, x, b, rfl, hw, ha⟩ := wr_split hx
    have hcx : chainOf (a ++ x :: b) s.w = x.l := chainOf_mid hw ha
    rw [hcx] at hlen ⊢
    refine Fn.pre (logS_out g r a x b c) (Fn.ent (Add_old R hG s hok hw ha (by omega) (by omega) hs (fun p hp => ?_)) ?_)
    · unfold lastC at hp
      rw [List.getLast?_eq_getElem?] at hp
      obtain ⟨y, hy, rfl⟩ := Option.map_eq_some_iff.1 hp
      rw [← hcx] at hy
      exact (hC.rcd _ _ _ hy).2.2.2
    · rintro _ _ ⟨rfl, ⟨he, rfl⟩ | ⟨he, A, cap, hg, rfl⟩⟩
      · rw [if_neg he]
        exact ⟨_, logS_in g r a x b c, rfl, r, _, c, hok, fun _ => rfl, rfl⟩
      · rw [if_pos he, he, ← hw]
        exact ⟨_, logS_in g r a _ b c, rfl, LogIs.set hok (by rw [hw]; exact ha) hg⟩
  · have hx' : ∀ x ∈ st, x.w ≠ s.w := fun x hm e => hx ⟨x, hm, e⟩
    have hcx : chainOf st s.w = [] := chainOf_none hx'
    rw [hcx]
    refine Fn.ent (Add_new R hG s hok hx' (by omega) hs) ?_
    rintro _ _ ⟨rfl, ⟨he, rfl⟩ | ⟨he, A, cap, hg, rfl⟩⟩
    · rw [if_neg he]
      exact ⟨_, Ent.refl _, rfl, r, _, c, hok, fun _ => rfl, rfl⟩
    · rw [if_pos he, he]
      have hv : validB s = true := by
        by_cases hv : validB s = true
        · exact hv
        · unfold addE at he; rw [if_neg hv] at he; cases he
      exact ⟨_, Ent.refl _, rfl, LogIs.new hok (validB_iff.1 hv).w hx' hg⟩

theorem recs_set {v : Value} {k : Nat} {y y' : Rec} (hk : k < 12) (hy : y'.cells = y.cells.set k v) : ∀ {l : List Rec} {i : Nat}, l[i]? = some y → (recs l).set (i * 12 + k) v = recs (l.set i y')
  | [], i, h => by simp at h
  | x :: l, 0, h => by
    have hxy : x = y := by simpa using h
    show (x.cells ++ recs l).set (0 * 12 + k) v = y'.cells ++ recs l
    rw [Nat.zero_mul, Nat.zero_add, List.set_append_left _ _ (by rw [Rec.cells_length]; exact hk), hy, hxy]
  | x :: l, i + 1, h => by
    have h' : l[i]? = some y := by simpa using h
    show (x.cells ++ recs l).set ((i + 1) * 12 + k) v = x.cells ++ recs (l.set i y')
    have e : (i + 1) * 12 + k - 12 = i * 12 + k := by omega
    rw [List.set_append_right _ _ (by rw [Rec.cells_length]; omega), ← recs_set hk hy h', Rec.cells_length, e]

end Go.Proofs.YtbgfnofjnbpdgaaDoor
