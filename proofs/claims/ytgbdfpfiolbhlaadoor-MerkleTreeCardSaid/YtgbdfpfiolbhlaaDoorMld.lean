/-
  Trees that grow: the memory of the levels, and what an addition does to them (plain).
-/
import Derived.Test.YtgbdfpfiolbhlaaDoorMlc
namespace Go.Proofs.YtgbdfpfiolbhlaaDoor
open Go Go.RowKit
set_option linter.unusedVariables false

/-- The memory of a level: its slice and the cells of its row. -/
structure Lm where
  A : Option Addr
  c : Nat
  n : Nat
  xs : List Value
def Lm.val (m : Lm) : Value := .slice m.A m.n m.c
def Lm.row (m : Lm) : HA := .row m.A m.n m.c 9 1 m.xs (0, 0)
def Lm.no : Lm := ⟨.none, 0, 0, []⟩
structure Lm.Is (m : Lm) (L : List Str) : Prop where
  n : m.n = L.length
  xs : m.xs = SV L
  gr : grow m.n m.A

def lvals (lm : Nat → Lm) : List Value := [(lm 0).val, (lm 1).val, (lm 2).val, (lm 3).val, (lm 4).val]
/-- A tree in memory: the first K of five levels are there. -/
def treeL (g gl K cl : Nat) (ls : List Value) (lm : Nat → Lm) : Hp :=
  [.blk g 85 [.slice (some ⟨gl, 0, .none⟩) K cl], .row (some ⟨gl, 0, .none⟩) K cl 27 1 ls (0, 0), (lm 0).row, (lm 1).row, (lm 2).row, (lm 3).row, (lm 4).row]

structure TreeS (l : List Str) (K : Nat) (ls : List Value) (lm : Nat → Lm) : Prop where
  k1 : 1 ≤ K
  k5 : K ≤ 5
  kk : ∀ j, 2 ^ j ≤ l.length → j < K
  ls : ls = (lvals lm).take K
  vs : ∀ j, j < 5 → (lm j).Is (lvl j l)
  no : ∀ j, K ≤ j → lm j = Lm.no

theorem lvals_get (lm : Nat → Lm) : ∀ j, j < 5 → (lvals lm)[j]? = some (lm j).val
  | 0, _ => rfl
  | 1, _ => rfl
  | 2, _ => rfl
  | 3, _ => rfl
  | 4, _ => rfl
  | n + 5, h => by omega

def upd (lm : Nat → Lm) (j : Nat) (v : Lm) : Nat → Lm := fun i => match Nat.beq i j with
  | true => v
  | false => lm i
theorem upd_at (lm : Nat → Lm) (j : Nat) (v : Lm) : upd lm j v j = v := by unfold upd; rw [Nat.beq_refl]
theorem upd_ne (lm : Nat → Lm) {i j : Nat} (v : Lm) (h : i ≠ j) : upd lm j v i = lm i := by
  unfold upd
  cases hb : Nat.beq i j
  · rfl
  · exact absurd (Nat.eq_of_beq_eq_true hb) h
theorem lvals_upd (lm : Nat → Lm) (v : Lm) : ∀ j, j < 5 → lvals (upd lm j v) = (lvals lm).set j v.val
  | 0, _ => rfl
  | 1, _ => rfl
  | 2, _ => rfl
  | 3, _ => rfl
  | 4, _ => rfl
  | n + 5, h => by omega
theorem lvals_length (lm : Nat → Lm) : (lvals lm).length = 5 := rfl

/-- The root of the last 2^j leaves. -/
def lastRoot (l : List Str) (x : Str) (j : Nat) : Str := rootOf (((l ++ [x]).drop (l.length / 2 ^ j * 2 ^ j)).take (2 ^ j))

/-- In the middle of an addition: the levels below j have the new leaf. -/
structure Mid (l : List Str) (x : Str) (j K : Nat) (ls : List Value) (lm : Nat → Lm) (root : Str) : Prop where
  k1 : 1 ≤ K
  k5 : K ≤ 5
  kk : ∀ j, 2 ^ j ≤ l.length → j < K
  jk : j ≤ K
  dv : 2 ^ j ∣ l.length + 1
  ls : ls = (lvals lm).take K
  lo : ∀ i, i < j → i < 5 → (lm i).Is (lvl i (l ++ [x]))
  hi : ∀ i, j ≤ i → i < 5 → (lm i).Is (lvl i l)
  no : ∀ i, K ≤ i → lm i = Lm.no
  rt : root = lastRoot l x j

theorem Mid.start {l : List Str} {K : Nat} {ls : List Value} {lm : Nat → Lm} (x : Str) (h : TreeS l K ls lm) : Mid l x 0 K ls lm x := by
  refine ⟨h.k1, h.k5, h.kk, Nat.zero_le _, ⟨_, (Nat.one_mul _).symm⟩, h.ls, fun i hi => by omega, fun i _ hi => h.vs i hi, h.no, ?_⟩
  have e : l.length / 2 ^ 0 * 2 ^ 0 = l.length := by simp
  rw [lastRoot, e, Nat.pow_zero, take_one_root (by rw [List.length_append]; exact Nat.lt_succ_self _), List.getD_eq_getElem?_getD, List.getElem?_append_right (Nat.le_refl _), Nat.sub_self]
  rfl

theorem pow_dvd_of_lt {i j n : Nat} (h : 2 ^ i ∣ n) (hij : j < i) : 2 ^ (j + 1) ∣ n := Nat.dvd_trans (Nat.pow_dvd_pow 2 hij) h

theorem cnt_even {l : List Str} {j : Nat} (h : 2 ^ j ∣ l.length + 1) : 2 ^ (j + 1) ∣ l.length + 1 ↔ (l.length / 2 ^ j + 1) % 2 = 0 := by
  obtain ⟨c, hc⟩ := h
  have hp := Nat.two_pow_pos j
  have hd : l.length / 2 ^ j + 1 = c := by
    have := Nat.succ_div_of_dvd (a := l.length) (b := 2 ^ j) ⟨c, hc⟩
    rw [hc, Nat.mul_div_cancel_left _ hp] at this
    exact this.symm
  rw [hd, hc, Nat.pow_succ]
  constructor
  · intro h
    exact Nat.mod_eq_zero_of_dvd (Nat.dvd_of_mul_dvd_mul_left hp h)
  · intro h
    exact Nat.mul_dvd_mul_left _ (Nat.dvd_of_mod_eq_zero h)

theorem take_set_new (lm : Nat → Lm) {j : Nat} (hj : j < 5) (h : lm j = Lm.no) : (lvals lm).take j ++ [.slice .none 0 0] = (lvals lm).take (j + 1) := by
  rw [List.take_add_one, lvals_get lm j hj, h]; rfl

/-- The levels' row behind the step. -/
theorem Mid.row {l : List Str} {x : Str} {j K K' : Nat} {ls ls' : List Value} {lm : Nat → Lm} {root : Str} (h : Mid l x j K ls lm root) (hj : j < 5) (hK : (K' = K ∧ j < K ∧ ls' = ls) ∨ (K' = K + 1 ∧ j = K ∧ ls' = ls ++ [.slice .none 0 0])) (v : Lm) :
    ls'.set j v.val = (lvals (upd lm j v)).take K' ∧ ls'[j]? = some (lm j).val ∧ j < ls'.length := by
  have hl := h.ls
  have e : ls' = (lvals lm).take K' := by
    rcases hK with ⟨rfl, _, rfl⟩ | ⟨rfl, rfl, rfl⟩
    · exact hl
    · rw [hl]; exact take_set_new lm hj (h.no j (Nat.le_refl _))
  have hjK : j < K' := by omega
  refine ⟨?_, ?_, ?_⟩
  · rw [lvals_upd lm v j hj, e, List.take_set]
  · rw [e, List.getElem?_take, if_pos hjK, lvals_get lm j hj]
  · rw [e, List.length_take, lvals_length]; omega

theorem Mid.step_is {l : List Str} {x : Str} {j K : Nat} {ls : List Value} {lm : Nat → Lm} {root : Str} (h : Mid l x j K ls lm root) (hj : j < 5) {A : Option Addr} (c : Nat) (hg : grow ((lm j).n + 1) A) :
    Lm.Is ⟨A, c, (lm j).n + 1, (lm j).xs ++ [.string ⟨⟨root⟩⟩]⟩ (lvl j (l ++ [x])) := by
  have hi := h.hi j (Nat.le_refl _) hj
  have e : lvl j (l ++ [x]) = lvl j l ++ [root] := by rw [lvl_more h.dv, h.rt]; rfl
  refine ⟨?_, ?_, hg⟩
  · show (lm j).n + 1 = _
    rw [e, List.length_append, hi.n]; rfl
  · show (lm j).xs ++ _ = _
    rw [e, hi.xs, SV_snoc]

theorem Mid.fin {l : List Str} {x : Str} {j K K' : Nat} {ls ls' : List Value} {lm : Nat → Lm} {root : Str} (h : Mid l x j K ls lm root) (hj : j < 5) (hodd : ((lm j).n + 1) % 2 ≠ 0) (hK : (K' = K ∧ j < K ∧ ls' = ls) ∨ (K' = K + 1 ∧ j = K ∧ ls' = ls ++ [.slice .none 0 0])) (hK5 : K' ≤ 5) {A : Option Addr} (c : Nat) (hg : grow ((lm j).n + 1) A) :
    TreeS (l ++ [x]) K' (ls'.set j (.slice A ((lm j).n + 1) c)) (upd lm j ⟨A, c, (lm j).n + 1, (lm j).xs ++ [.string ⟨⟨root⟩⟩]⟩) := by
  have hjl := h.hi j (Nat.le_refl _) hj
  have hk1 := h.k1
  have hcnt : ¬ 2 ^ (j + 1) ∣ l.length + 1 := fun hd => by
    rw [cnt_even h.dv] at hd
    rw [hjl.n, lvl_length] at hodd
    exact hodd hd
  refine ⟨by omega, hK5, fun i hi => ?_, (by have := (h.row hj hK (⟨A, c, (lm j).n + 1, (lm j).xs ++ [Value.string (⟨⟨root⟩⟩ : ByteArray)]⟩ : Lm)).1; exact this), fun i hi => ?_, fun i hi => ?_⟩
  · rw [List.length_append] at hi
    have hi : 2 ^ i ≤ l.length + 1 := hi
    by_cases h1 : 2 ^ i ≤ l.length
    · have := h.kk i h1; omega
    · have h2 : 2 ^ i = l.length + 1 := by omega
      have h3 : i ≤ j := by
        rcases Nat.lt_or_ge j i with h3 | h3
        · exact absurd (pow_dvd_of_lt (h2 ▸ Nat.dvd_refl _) h3) hcnt
        · exact h3
      omega
  · by_cases e : i = j
    · subst e
      rw [upd_at]; exact h.step_is hj c hg
    · rw [upd_ne _ _ e]
      by_cases e2 : i < j
      · exact h.lo i e2 hi
      · rw [lvl_same fun hd => hcnt (pow_dvd_of_lt hd (by omega))]
        exact h.hi i (by omega) hi
  · have e : i ≠ j := by omega
    rw [upd_ne _ _ e]; exact h.no i (by omega)

/-- The last element but one of the level. -/
def before (l : List Str) (x : Str) (j : Nat) : Str := (lvl j (l ++ [x])).getD (l.length / 2 ^ j - 1) []

theorem Mid.next {l : List Str} {x : Str} {j K K' : Nat} {ls ls' : List Value} {lm : Nat → Lm} {root : Str} (h : Mid l x j K ls lm root) (hj : j < 5) (hev : ((lm j).n + 1) % 2 = 0) (hK : (K' = K ∧ j < K ∧ ls' = ls) ∨ (K' = K + 1 ∧ j = K ∧ ls' = ls ++ [.slice .none 0 0])) (hK5 : K' ≤ 5) {A : Option Addr} (c : Nat) (hg : grow ((lm j).n + 1) A) :
    Mid l x (j + 1) K' (ls'.set j (.slice A ((lm j).n + 1) c)) (upd lm j ⟨A, c, (lm j).n + 1, (lm j).xs ++ [.string ⟨⟨root⟩⟩]⟩) (nodeOf (before l x j) root) := by
  have hjl := h.hi j (Nat.le_refl _) hj
  have hk1 := h.k1
  have hcnt : (l.length / 2 ^ j + 1) % 2 = 0 := by rw [hjl.n, lvl_length] at hev; exact hev
  have hdv : 2 ^ (j + 1) ∣ l.length + 1 := (cnt_even h.dv).2 hcnt
  have hp := Nat.two_pow_pos j
  have hcd : (l.length / 2 ^ j + 1) * 2 ^ j = l.length + 1 := by
    rw [← Nat.succ_div_of_dvd h.dv, Nat.div_mul_cancel h.dv]
  refine ⟨by omega, hK5, fun i hi => by have := h.kk i hi; omega, by omega, hdv, (by have := (h.row hj hK (⟨A, c, (lm j).n + 1, (lm j).xs ++ [Value.string (⟨⟨root⟩⟩ : ByteArray)]⟩ : Lm)).1; exact this), fun i hi hi5 => ?_, fun i hi hi5 => ?_, fun i hi => ?_, ?_⟩
  · by_cases e : i = j
    · subst e
      rw [upd_at]; exact h.step_is hj c hg
    · rw [upd_ne _ _ e]; exact h.lo i (by omega) hi5
  · rw [upd_ne _ _ (by omega)]; exact h.hi i (by omega) hi5
  · rw [upd_ne _ _ (by omega)]; exact h.no i (by omega)
  · rw [before, h.rt]
    generalize hc : l.length / 2 ^ j = c at *
    have hc1 : 1 ≤ c := by omega
    have hlen : (l ++ [x]).length = (c + 1) * 2 ^ j := by rw [List.length_append]; exact hcd.symm
    have hget : (lvl j (l ++ [x])).getD (c - 1) [] = rootOf (((l ++ [x]).drop ((c - 1) * 2 ^ j)).take (2 ^ j)) := lvl_get (by rw [hlen, Nat.mul_div_cancel _ hp]; omega)
    have hq : l.length / 2 ^ (j + 1) * 2 ^ (j + 1) = (c - 1) * 2 ^ j := by
      rw [Nat.pow_succ, ← Nat.div_div_eq_div_mul, hc]
      have : c / 2 * 2 = c - 1 := by omega
      rw [← this, Nat.mul_comm (2 ^ j) 2, Nat.mul_assoc]
    have hmul : (c + 1) * 2 ^ j = (c - 1) * 2 ^ j + 2 ^ (j + 1) := by
      rw [Nat.pow_succ, Nat.mul_comm (2 ^ j) 2, ← Nat.add_mul]; congr 1; omega
    have hmul2 : (c - 1) * 2 ^ j + 2 ^ j = c * 2 ^ j := by
      have : c * 2 ^ j = (c - 1 + 1) * 2 ^ j := by congr 1; omega
      rw [this, Nat.add_mul, Nat.one_mul]
    have hpw : 2 ^ (j + 1) = 2 ^ j + 2 ^ j := by rw [Nat.pow_succ]; omega
    rw [hget, lastRoot, lastRoot, hc, hq]
    have hS : (((l ++ [x]).drop ((c - 1) * 2 ^ j)).take (2 ^ (j + 1))).length = 2 ^ (j + 1) := by
      rw [List.length_take, List.length_drop, hlen, hmul]; omega
    rw [root_pow hS, List.take_take, List.drop_take, List.drop_drop, hmul2, hpw, Nat.min_eq_left (by omega), Nat.add_sub_cancel]

theorem lvl_small {l : List Str} (hl : Small l) (j : Nat) : ∀ s ∈ lvl j l, s.length ≤ 1000000 := by
  intro s hs
  obtain ⟨i, _, rfl⟩ := List.mem_map.1 hs
  exact ((hl.drop _).take _).root
theorem Mid.root_small {l : List Str} {x : Str} {j K : Nat} {ls : List Value} {lm : Nat → Lm} {root : Str} (h : Mid l x j K ls lm root) (hl : Small (l ++ [x])) : root.length ≤ 1000000 := by
  rw [h.rt]; exact ((hl.drop _).take _).root
theorem before_small {l : List Str} {x : Str} (hl : Small (l ++ [x])) (j : Nat) : (before l x j).length ≤ 1000000 := by
  rw [before, List.getD_eq_getElem?_getD]
  cases hg : (lvl j (l ++ [x]))[l.length / 2 ^ j - 1]? with
  | none => simp
  | some s => exact lvl_small hl j s (List.mem_of_getElem? hg)
/-- The cell of the last element but one. -/
theorem Mid.before_cell {l : List Str} {x : Str} {j K : Nat} {ls : List Value} {lm : Nat → Lm} {root : Str} (h : Mid l x j K ls lm root) (hj : j < 5) (hev : ((lm j).n + 1) % 2 = 0) :
    ((lm j).xs ++ [.string ⟨⟨root⟩⟩])[(lm j).n - 1]? = some (.string ⟨⟨before l x j⟩⟩) ∧ 1 ≤ (lm j).n := by
  have hi := h.hi j (Nat.le_refl _) hj
  have e : (lm j).xs ++ [.string ⟨⟨root⟩⟩] = SV (lvl j (l ++ [x])) := by
    rw [hi.xs, SV_snoc, lvl_more h.dv, h.rt]; rfl
  have hn : (lm j).n = l.length / 2 ^ j := by rw [hi.n, lvl_length]
  have hlen : (lvl j (l ++ [x])).length = l.length / 2 ^ j + 1 := by
    rw [lvl_length, List.length_append]; exact Nat.succ_div_of_dvd h.dv
  have h1 : 1 ≤ (lm j).n := by omega
  refine ⟨?_, h1⟩
  rw [e, SV, List.getElem?_map, before, ← hn, List.getD_eq_getElem?_getD, List.getElem?_eq_getElem (by omega)]; rfl

/-! ### a tree of the call's own -/
def IsTree (g : Nat) (l : List Str) (h : Hp) : Prop := ∃ gl K cl ls lm, TreeS l K ls lm ∧ h = treeL g gl K cl ls lm

theorem tree_readS (R : Rd) {g gl K cl : Nat} {l : List Str} {ls : List Value} {lm : Nat → Lm} (h : TreeS l K ls lm) : TreeR (RH R (treeL g gl K cl ls lm)) g l := by
  refine ⟨gl, K, cl, fun j => ⟨(lm j).A, (lm j).c, lvl j l⟩, h.k5, ld 0 rfl rfl, fun j hj => ?_⟩
  have hjK : j < K := by
    rcases hj with rfl | hj
    · exact h.k1
    · exact h.kk j hj
  have h5 := h.k5
  have hv := h.vs j (by omega)
  have hval : (⟨(lm j).A, (lm j).c, lvl j l⟩ : Lv).val = (lm j).val := by
    show Value.slice _ (lvl j l).length _ = Value.slice _ _ _
    rw [hv.n]
  refine ⟨hjK, ?_, ?_, rfl⟩
  · refine ldr1 1 rfl ?_
    rw [h.ls, List.getElem?_take, if_pos hjK, lvals_get lm j (by omega), hval]
  · rw [hval]
    have hrow : (treeL g gl K cl ls lm)[j + 2]? = some (lm j).row := by
      match j, h5, hjK with
      | 0, _, _ => rfl
      | 1, _, _ => rfl
      | 2, _, _ => rfl
      | 3, _, _ => rfl
      | 4, _, _ => rfl
      | n + 5, h5, hjK => omega
    have := SsR.ownL (R := R) (treeL g gl K cl ls lm) (j + 2) (A := (lm j).A) (n := (lm j).n) (cap := (lm j).c) (e := 9) (L := lvl j l) (fz := (0, 0)) (by rw [hrow, ← hv.xs]; rfl) hv.n hv.gr
    exact this

end Go.Proofs.YtgbdfpfiolbhlaaDoor
