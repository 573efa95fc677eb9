/-
  Transfer, plain: what a reader reads of heads and parts, and their encodings.
-/
import Derived.Test.YtgnmbgbiajgpeaaDoorW2
import Derived.Test.YtgnmbgbiajgpeaaDoorM1
import Derived.Test.YtgnmbgbiajgpeaaDoorH1
namespace Go.Proofs.YtgnmbgbiajgpeaaDoor
open Go Go.RowKit
set_option linter.unusedVariables false

abbrev RS := Nat × Nat × Int
def uV (d : Str) (s : RS) : Nat := if s.2.2 = 0 then (uintD (d.drop s.1)).2.1 else 0
def uN (d : Str) (s : RS) : RS := nxt d s.1 s.2.1 s.2.2 (uintD (d.drop s.1)).1 (uintD (d.drop s.1)).2.2
def sV (d : Str) (s : RS) : Str := if s.2.2 = 0 then (sumD (d.drop s.1)).2.1 else []
def sN (d : Str) (s : RS) : RS := nxt d s.1 s.2.1 s.2.2 (sumD (d.drop s.1)).1 (sumD (d.drop s.1)).2.2

def yV (m : Int) (d : Str) (s : RS) : Str := if s.2.2 = 0 then (blkD m (d.drop s.1)).2.1 else []
def yN (m : Int) (d : Str) (s : RS) : RS := nxt d s.1 s.2.1 s.2.2 (blkD m (d.drop s.1)).1 (blkD m (d.drop s.1)).2.2
def cV (m : Int) (d : Str) (s : RS) : Nat := if s.2.2 = 0 then (limD m (d.drop s.1)).2.1 else 0
def cN (m : Int) (d : Str) (s : RS) : RS := nxt d s.1 s.2.1 s.2.2 (limD m (d.drop s.1)).1 (limD m (d.drop s.1)).2.2
/-- A failed read. -/
def flN (s : RS) : RS := if s.2.2 = 0 then (s.2.1, s.2.1, 3) else (s.1, s.2.1, s.2.2)
def mV (m : Nat) (d : Str) (s : RS) : Nat := if m < uV d s then 0 else uV d s
def mN (m : Nat) (d : Str) (s : RS) : RS := if m < uV d s then flN (uN d s) else uN d s
/-- Sums that are read one after another. -/
def ssN (d : Str) (s : RS) : Nat → RS
  | 0 => s
  | k + 1 => sN d (ssN d s k)
def ssV (d : Str) (s : RS) : Nat → List Str
  | 0 => []
  | k + 1 => ssV d s k ++ [sV d (ssN d s k)]

theorem nxt_le {d : Str} {off last : Nat} {e err : Int} {rest : Str} (h : off ≤ d.length) : (nxt d off last e err rest).1 ≤ d.length := by
  unfold nxt
  split
  · split
    · show d.length - rest.length ≤ _; omega
    · exact h
  · exact h
theorem nxt_err {d : Str} {off last : Nat} {e err : Int} {rest : Str} (h : (nxt d off last e err rest).2.2 = 0) : e = 0 ∧ err = 0 ∧ (nxt d off last e err rest).1 = d.length - rest.length := by
  unfold nxt at h ⊢
  by_cases h1 : e = 0
  · rw [if_pos h1] at h ⊢
    by_cases h2 : err = 0
    · rw [if_pos h2]; exact ⟨h1, h2, rfl⟩
    · rw [if_neg h2] at h; exact absurd h h2
  · rw [if_neg h1] at h; exact absurd h h1
theorem nxt_ok {d : Str} {off last : Nat} {rest : Str} : nxt d off last 0 0 rest = (d.length - rest.length, off, 0) := by
  unfold nxt; rw [if_pos rfl, if_pos rfl]
theorem drop_app (q r : Str) : (q ++ r).drop ((q ++ r).length - r.length) = r := by
  rw [List.length_append, Nat.add_sub_cancel, List.drop_left]
theorem drop_rest {d p r : Str} {o : Nat} (h : d.drop o = p ++ r) : d.drop (d.length - r.length) = r := by
  have h3 : d = (d.take o ++ p) ++ r := by rw [List.append_assoc, ← h, List.take_append_drop]
  rw [h3]
  exact drop_app _ _

/-! ### each read -/
theorem u_ok {d : Str} {s : RS} (h : (uN d s).2.2 = 0) : s.2.2 = 0 ∧ d.drop s.1 = num (uV d s) ++ d.drop (uN d s).1 ∧ uV d s ≤ 18446744073709551615 := by
  obtain ⟨h1, h2, h3⟩ := nxt_err h
  have hv : uV d s = (uintD (d.drop s.1)).2.1 := if_pos h1
  have h3 : (uN d s).1 = d.length - (uintD (d.drop s.1)).2.2.length := h3
  rw [hv, h3]
  unfold uintD at h2 ⊢
  cases hd : dec (d.drop s.1) with
  | none => rw [hd] at h2; cases h2
  | some p =>
    obtain ⟨n, r⟩ := p
    obtain ⟨e1, e2⟩ := dec_iff.1 hd
    refine ⟨h1, ?_, e2⟩
    show d.drop s.1 = num n ++ d.drop (d.length - r.length)
    rw [drop_rest e1]; exact e1
theorem u_mk {d : Str} {s : RS} {n : Nat} {r : Str} (h : s.2.2 = 0) (hd : d.drop s.1 = num n ++ r) (hn : n ≤ 18446744073709551615) : uV d s = n ∧ (uN d s).2.2 = 0 ∧ d.drop (uN d s).1 = r := by
  have e : uintD (d.drop s.1) = (0, n, r) := by unfold uintD; rw [dec_iff.2 ⟨hd, hn⟩]
  unfold uV uN
  rw [e, h, nxt_ok]
  exact ⟨if_pos rfl, rfl, drop_rest hd⟩
theorem s_ok {d : Str} {s : RS} (h : (sN d s).2.2 = 0) : s.2.2 = 0 ∧ d.drop s.1 = sV d s ++ d.drop (sN d s).1 ∧ (sV d s).length = 32 := by
  obtain ⟨h1, h2, h3⟩ := nxt_err h
  have hv : sV d s = (sumD (d.drop s.1)).2.1 := if_pos h1
  have h3 : (sN d s).1 = d.length - (sumD (d.drop s.1)).2.2.length := h3
  rw [hv, h3]
  unfold sumD at h2 ⊢
  by_cases hl : (d.drop s.1).length < 32
  · rw [if_pos hl] at h2; cases h2
  · rw [if_neg hl]
    refine ⟨h1, ?_, by show ((d.drop s.1).take 32).length = 32; rw [List.length_take]; omega⟩
    show d.drop s.1 = (d.drop s.1).take 32 ++ d.drop (d.length - ((d.drop s.1).drop 32).length)
    have e : d.drop s.1 = (d.drop s.1).take 32 ++ (d.drop s.1).drop 32 := (List.take_append_drop _ _).symm
    rw [drop_rest e]; exact e
theorem s_mk {d : Str} {s : RS} {x r : Str} (h : s.2.2 = 0) (hd : d.drop s.1 = x ++ r) (hx : x.length = 32) : sV d s = x ∧ (sN d s).2.2 = 0 ∧ d.drop (sN d s).1 = r := by
  have e : sumD (d.drop s.1) = (0, x, r) := by
    unfold sumD
    rw [hd, if_neg (by rw [List.length_append]; omega), List.take_append_of_le_length (by omega), List.take_of_length_le (by omega), List.drop_append_of_le_length (by omega), List.drop_of_length_le (by omega)]; rfl
  unfold sV sN
  rw [e, h, nxt_ok]
  exact ⟨if_pos rfl, rfl, drop_rest hd⟩
theorem uN_le {d : Str} {s : RS} (h : s.1 ≤ d.length) : (uN d s).1 ≤ d.length := nxt_le h
theorem sN_le {d : Str} {s : RS} (h : s.1 ≤ d.length) : (sN d s).1 ≤ d.length := nxt_le h
theorem y_ok {m : Int} {d : Str} {s : RS} (h : (yN m d s).2.2 = 0) : s.2.2 = 0 ∧ d.drop s.1 = num (yV m d s).length ++ (yV m d s ++ d.drop (yN m d s).1) := by
  obtain ⟨h1, h2, h3⟩ := nxt_err h
  have hv : yV m d s = (blkD m (d.drop s.1)).2.1 := if_pos h1
  have h3 : (yN m d s).1 = d.length - (blkD m (d.drop s.1)).2.2.length := h3
  rw [hv, h3]
  refine ⟨h1, ?_⟩
  unfold blkD limD at h2 ⊢
  cases hd : dec (d.drop s.1) with
  | none => rw [hd] at h2; cases h2
  | some p =>
    obtain ⟨n, r⟩ := p
    obtain ⟨e1, e2⟩ := dec_iff.1 hd
    rw [hd] at h2
    by_cases hm : max m 0 < (n : Int)
    · simp only [if_pos hm] at h2; cases h2
    · simp only [if_neg hm, if_true] at h2 ⊢
      by_cases hl : r.length < n
      · simp only [if_pos hl] at h2; cases h2
      · simp only [if_neg hl]
        have hl2 : (r.take n).length = n := by rw [List.length_take]; omega
        have e3 : d.drop s.1 = (num n ++ r.take n) ++ r.drop n := by rw [List.append_assoc, List.take_append_drop]; exact e1
        rw [hl2, drop_rest e3, e3, List.append_assoc]
theorem y_mk {m : Int} {d : Str} {s : RS} {x r : Str} (h : s.2.2 = 0) (hd : d.drop s.1 = num x.length ++ (x ++ r)) (hx : (x.length : Int) ≤ m) (hx2 : x.length ≤ 18446744073709551615) : yV m d s = x ∧ (yN m d s).2.2 = 0 ∧ d.drop (yN m d s).1 = r := by
  have e : blkD m (d.drop s.1) = (0, x, r) := by
    have hl : limD m (d.drop s.1) = (0, x.length, x ++ r) := by
      unfold limD
      rw [dec_iff.2 ⟨hd, by omega⟩]
      show (if max m 0 < (x.length : Int) then _ else _) = _
      rw [if_neg (by omega)]
    unfold blkD
    rw [hl]
    simp
  unfold yV yN
  rw [e, h, nxt_ok]
  refine ⟨if_pos rfl, rfl, ?_⟩
  rw [← List.append_assoc] at hd
  exact drop_rest hd

theorem yN_le {m : Int} {d : Str} {s : RS} (h : s.1 ≤ d.length) : (yN m d s).1 ≤ d.length := nxt_le h
theorem cN_le {m : Int} {d : Str} {s : RS} (h : s.1 ≤ d.length) : (cN m d s).1 ≤ d.length := nxt_le h
theorem c_ok {m : Int} {d : Str} {s : RS} (h : (cN m d s).2.2 = 0) : s.2.2 = 0 ∧ d.drop s.1 = num (cV m d s) ++ d.drop (cN m d s).1 := by
  obtain ⟨h1, h2, h3⟩ := nxt_err h
  have hv : cV m d s = (limD m (d.drop s.1)).2.1 := if_pos h1
  have h3 : (cN m d s).1 = d.length - (limD m (d.drop s.1)).2.2.length := h3
  rw [hv, h3]
  refine ⟨h1, ?_⟩
  unfold limD at h2 ⊢
  cases hd : dec (d.drop s.1) with
  | none => rw [hd] at h2; cases h2
  | some p =>
    obtain ⟨n, r⟩ := p
    obtain ⟨e1, e2⟩ := dec_iff.1 hd
    rw [hd] at h2
    by_cases hm : max m 0 < (n : Int)
    · simp only [if_pos hm] at h2; cases h2
    · simp only [if_neg hm]
      rw [drop_rest e1]; exact e1
theorem c_mk {m : Int} {d : Str} {s : RS} {n : Nat} {r : Str} (h : s.2.2 = 0) (hd : d.drop s.1 = num n ++ r) (hn : (n : Int) ≤ m) (hn2 : n ≤ 18446744073709551615) : cV m d s = n ∧ (cN m d s).2.2 = 0 ∧ d.drop (cN m d s).1 = r := by
  have e : limD m (d.drop s.1) = (0, n, r) := by
    unfold limD
    rw [dec_iff.2 ⟨hd, hn2⟩]
    show (if max m 0 < (n : Int) then _ else _) = _
    rw [if_neg (by omega)]
  unfold cV cN
  rw [e, h, nxt_ok]
  exact ⟨if_pos rfl, rfl, drop_rest hd⟩
theorem cV_le (m : Int) (d : Str) (s : RS) : (cV m d s : Int) ≤ max m 0 := by
  unfold cV
  split
  · unfold limD
    cases dec (d.drop s.1) with
    | none => show ((0 : Nat) : Int) ≤ _; omega
    | some p =>
      obtain ⟨n, r⟩ := p
      show (((if max m 0 < (n : Int) then ((2 : Int), 0, []) else (0, n, r)).2.1 : Nat) : Int) ≤ _
      by_cases hm : max m 0 < (n : Int)
      · rw [if_pos hm]; show ((0 : Nat) : Int) ≤ _; omega
      · rw [if_neg hm]; show (n : Int) ≤ _; omega
  · show ((0 : Nat) : Int) ≤ _; omega
theorem flN_err (s : RS) : (flN s).2.2 ≠ 0 := by
  unfold flN
  split
  · show (3 : Int) ≠ 0; omega
  · assumption
theorem mN_le {m : Nat} {d : Str} {s : RS} (h : s.1 ≤ d.length) : (mN m d s).1 ≤ d.length := by
  unfold mN
  have hu := uN_le h
  split
  · unfold flN
    by_cases he : (uN d s).2.2 = 0
    · rw [if_pos he]
      show (uN d s).2.1 ≤ _
      obtain ⟨h1, h2, _⟩ := nxt_err he
      unfold uN nxt
      rw [if_pos h1, if_pos h2]; exact h
    · rw [if_neg he]; exact hu
  · exact hu
theorem m_ok {m : Nat} {d : Str} {s : RS} (h : (mN m d s).2.2 = 0) : s.2.2 = 0 ∧ d.drop s.1 = num (mV m d s) ++ d.drop (mN m d s).1 := by
  unfold mN mV at *
  by_cases hm : m < uV d s
  · rw [if_pos hm] at h; exact absurd h (flN_err _)
  · rw [if_neg hm] at h ⊢
    rw [if_neg hm]
    obtain ⟨h1, h2, _⟩ := u_ok h
    exact ⟨h1, h2⟩
theorem m_mk {m : Nat} {d : Str} {s : RS} {n : Nat} {r : Str} (h : s.2.2 = 0) (hd : d.drop s.1 = num n ++ r) (hn : n ≤ m) (hm : m ≤ 18446744073709551615) : mV m d s = n ∧ (mN m d s).2.2 = 0 ∧ d.drop (mN m d s).1 = r := by
  obtain ⟨h1, h2, h3⟩ := u_mk h hd (by omega)
  unfold mN mV
  rw [h1, if_neg (by omega), if_neg (by omega)]
  exact ⟨rfl, h2, h3⟩
theorem mV_le (m : Nat) (d : Str) (s : RS) : mV m d s ≤ m := by
  unfold mV; split <;> omega
theorem ssN_le {d : Str} {s : RS} (h : s.1 ≤ d.length) : ∀ k, (ssN d s k).1 ≤ d.length
  | 0 => h
  | k + 1 => sN_le (ssN_le h k)
theorem cat_snoc (l : List Str) (x : Str) : cat (l ++ [x]) = cat l ++ x := by simp [cat]
theorem ssV_length (d : Str) (s : RS) : ∀ k, (ssV d s k).length = k
  | 0 => rfl
  | k + 1 => by rw [ssV, List.length_append, ssV_length d s k]; rfl
theorem ss_ok {d : Str} {s : RS} : ∀ k, (ssN d s k).2.2 = 0 → s.2.2 = 0 ∧ d.drop s.1 = cat (ssV d s k) ++ d.drop (ssN d s k).1 ∧ ∀ x ∈ ssV d s k, x.length = 32
  | 0, h => ⟨h, rfl, fun x hx => by cases hx⟩
  | k + 1, h => by
    obtain ⟨h1, h2, h3⟩ := s_ok h
    obtain ⟨g1, g2, g3⟩ := ss_ok k h1
    refine ⟨g1, ?_, fun x hx => ?_⟩
    · rw [g2, h2, ssV, cat_snoc, List.append_assoc]; rfl
    · rcases List.mem_append.1 hx with hx | hx
      · exact g3 x hx
      · rw [List.mem_singleton.1 hx]; exact h3
theorem cat_cons (x : Str) (l : List Str) : cat (x :: l) = x ++ cat l := rfl
theorem ss_mk {d : Str} {s : RS} {l : List Str} {r : Str} (h : s.2.2 = 0) (hd : d.drop s.1 = cat l ++ r) (hl : ∀ x ∈ l, x.length = 32) : ∀ k, k ≤ l.length → ssV d s k = l.take k ∧ (ssN d s k).2.2 = 0 ∧ d.drop (ssN d s k).1 = cat (l.drop k) ++ r
  | 0, _ => ⟨rfl, h, hd⟩
  | k + 1, hk => by
    obtain ⟨g1, g2, g3⟩ := ss_mk h hd hl k (by omega)
    have hx : l[k]? = some (l[k]'(by omega)) := List.getElem?_eq_getElem (by omega)
    have e : l.drop k = l[k]'(by omega) :: l.drop (k + 1) := List.drop_eq_getElem_cons (by omega)
    rw [e, cat_cons, List.append_assoc] at g3
    obtain ⟨a1, a2, a3⟩ := s_mk g2 g3 (hl _ (List.getElem_mem _))
    refine ⟨?_, a2, a3⟩
    rw [ssV, g1, a1, List.take_add_one, hx]; rfl

/-! ### heads and parts -/
structure Hd where
  st : Str
  ix : Int
  sz : Int
  sums : List Str
structure Pt where
  st : Str
  ix : Int
  off : Int
  dt : Str
  path : List Str
theorem Hd.ext' {a b : Hd} (h1 : a.st = b.st) (h2 : a.ix = b.ix) (h3 : a.sz = b.sz) (h4 : a.sums = b.sums) : a = b := by
  cases a; cases b; simp only at *; subst h1 h2 h3 h4; rfl
theorem Pt.ext' {a b : Pt} (h1 : a.st = b.st) (h2 : a.ix = b.ix) (h3 : a.off = b.off) (h4 : a.dt = b.dt) (h5 : a.path = b.path) : a = b := by
  cases a; cases b; simp only at *; subst h1 h2 h3 h4 h5; rfl
structure WfH (h : Hd) : Prop where
  n1 : 1 ≤ h.sums.length
  n2 : h.sums.length ≤ 16
  sums : sumsB h.sums = true
  st : h.st.length = 32
  i0 : 0 ≤ h.ix
  i1 : h.ix < h.sums.length
  s0 : 1 ≤ h.sz
  s1 : h.sz ≤ 65536
structure WfP (p : Pt) : Prop where
  st : p.st.length = 32
  i0 : 0 ≤ p.ix
  i1 : p.ix < 16
  o0 : 0 ≤ p.off
  o1 : p.off ≤ 65024
  om : p.off.toNat % 512 = 0
  d0 : 1 ≤ p.dt.length
  d1 : p.dt.length ≤ 512
  n : p.path.length ≤ 16
  sums : sumsB p.path = true
instance instDecWfH (h : Hd) : Decidable (WfH h) :=
  decidable_of_iff (1 ≤ h.sums.length ∧ h.sums.length ≤ 16 ∧ sumsB h.sums = true ∧ h.st.length = 32 ∧ 0 ≤ h.ix ∧ h.ix < h.sums.length ∧ 1 ≤ h.sz ∧ h.sz ≤ 65536)
    ⟨fun ⟨a1, a2, a3, a4, a5, a6, a7, a8⟩ => ⟨a1, a2, a3, a4, a5, a6, a7, a8⟩, fun ⟨a1, a2, a3, a4, a5, a6, a7, a8⟩ => ⟨a1, a2, a3, a4, a5, a6, a7, a8⟩⟩
instance instDecWfP (p : Pt) : Decidable (WfP p) :=
  decidable_of_iff (p.st.length = 32 ∧ 0 ≤ p.ix ∧ p.ix < 16 ∧ 0 ≤ p.off ∧ p.off ≤ 65024 ∧ p.off.toNat % 512 = 0 ∧ 1 ≤ p.dt.length ∧ p.dt.length ≤ 512 ∧ p.path.length ≤ 16 ∧ sumsB p.path = true)
    ⟨fun ⟨a1, a2, a3, a4, a5, a6, a7, a8, a9, a10⟩ => ⟨a1, a2, a3, a4, a5, a6, a7, a8, a9, a10⟩, fun ⟨a1, a2, a3, a4, a5, a6, a7, a8, a9, a10⟩ => ⟨a1, a2, a3, a4, a5, a6, a7, a8, a9, a10⟩⟩
def encH (h : Hd) : Str := h.st ++ (num h.ix.toNat ++ (num h.sz.toNat ++ (num h.sums.length ++ cat h.sums)))
def encP (p : Pt) : Str := p.st ++ (num p.ix.toNat ++ (num p.off.toNat ++ (num p.dt.length ++ (p.dt ++ (num p.path.length ++ cat p.path)))))
theorem mem_sums {l : List Str} (h : sumsB l = true) : ∀ x ∈ l, x.length = 32 := by simpa [sumsB] using h
theorem sums_mem {l : List Str} (h : ∀ x ∈ l, x.length = 32) : sumsB l = true := by simpa [sumsB] using h
theorem cat_len {l : List Str} (h : ∀ x ∈ l, x.length = 32) : (cat l).length = 32 * l.length := by
  induction l with
  | nil => rfl
  | cons a l ih =>
    rw [cat_cons, List.length_append, ih fun x hx => h x (by simp [hx]), h a (by simp), List.length_cons]; omega
theorem num_le10 {n : Nat} (h : n ≤ 18446744073709551615) : (num n).length ≤ 10 := by rw [length_num]; exact usize_le10 h
theorem encH_le {h : Hd} (w : WfH h) : (encH h).length ≤ 600 := by
  obtain ⟨a1, a2, a3, a4, a5, a6, a7, a8⟩ := w
  have h1 := cat_len (mem_sums a3)
  have h2 := num_le10 (n := h.ix.toNat) (by omega)
  have h3 := num_le10 (n := h.sz.toNat) (by omega)
  have h4 := num_le10 (n := h.sums.length) (by omega)
  simp only [encH, List.length_append]; omega
theorem encP_le {p : Pt} (w : WfP p) : (encP p).length ≤ 1200 := by
  obtain ⟨a1, a2, a3, a4, a5, a6, a7, a8, a9, a10⟩ := w
  have h1 := cat_len (mem_sums a10)
  have h2 := num_le10 (n := p.ix.toNat) (by omega)
  have h3 := num_le10 (n := p.off.toNat) (by omega)
  have h4 := num_le10 (n := p.dt.length) (by omega)
  have h5 := num_le10 (n := p.path.length) (by omega)
  simp only [encP, List.length_append]; omega

def hs1 (d : Str) (s : RS) : RS := sN d s
def hs2 (d : Str) (s : RS) : RS := mN 15 d (hs1 d s)
def hs3 (d : Str) (s : RS) : RS := mN 65536 d (hs2 d s)
def hs4 (d : Str) (s : RS) : RS := cN 16 d (hs3 d s)
def hN (d : Str) (s : RS) : RS := ssN d (hs4 d s) (cV 16 d (hs3 d s))
def hV (d : Str) (s : RS) : Hd := ⟨sV d s, mV 15 d (hs1 d s), mV 65536 d (hs2 d s), ssV d (hs4 d s) (cV 16 d (hs3 d s))⟩
def ps3 (d : Str) (s : RS) : RS := mN 65024 d (hs2 d s)
def ps4 (d : Str) (s : RS) : RS := yN 512 d (ps3 d s)
def ps5 (d : Str) (s : RS) : RS := cN 16 d (ps4 d s)
def pN (d : Str) (s : RS) : RS := ssN d (ps5 d s) (cV 16 d (ps4 d s))
def pV (d : Str) (s : RS) : Pt := ⟨sV d s, mV 15 d (hs1 d s), mV 65024 d (hs2 d s), yV 512 d (ps3 d s), ssV d (ps5 d s) (cV 16 d (ps4 d s))⟩
theorem hN_le {d : Str} {s : RS} (h : s.1 ≤ d.length) : (hN d s).1 ≤ d.length := ssN_le (cN_le (mN_le (mN_le (sN_le h)))) _
theorem pN_le {d : Str} {s : RS} (h : s.1 ≤ d.length) : (pN d s).1 ≤ d.length := ssN_le (cN_le (yN_le (mN_le (mN_le (sN_le h))))) _

theorem h_ok {d : Str} {s : RS} (h : (hN d s).2.2 = 0) : s.2.2 = 0 ∧ d.drop s.1 = encH (hV d s) ++ d.drop (hN d s).1 := by
  obtain ⟨g4, e5, _⟩ := ss_ok _ h
  obtain ⟨g3, e4⟩ := c_ok g4
  obtain ⟨g2, e3⟩ := m_ok g3
  obtain ⟨g1, e2⟩ := m_ok g2
  obtain ⟨g0, e1, _⟩ := s_ok g1
  refine ⟨g0, ?_⟩
  show _ = (sV d s ++ (num (mV 15 d (hs1 d s) : Int).toNat ++ (num (mV 65536 d (hs2 d s) : Int).toNat ++ (num (ssV d (hs4 d s) (cV 16 d (hs3 d s))).length ++ cat (ssV d (hs4 d s) (cV 16 d (hs3 d s))))))) ++ _
  rw [Int.toNat_natCast, Int.toNat_natCast, ssV_length]
  simp only [List.append_assoc]
  rw [e1]; congr 1
  refine Eq.trans e2 ?_; congr 1
  refine Eq.trans e3 ?_; congr 1
  refine Eq.trans e4 ?_; congr 1
theorem h_mk {d : Str} {s : RS} {x : Hd} {r : Str} (h : s.2.2 = 0) (w : WfH x) (hd : d.drop s.1 = encH x ++ r) : hV d s = x ∧ (hN d s).2.2 = 0 ∧ d.drop (hN d s).1 = r := by
  obtain ⟨a1, a2, a3, a4, a5, a6, a7, a8⟩ := w
  unfold encH at hd
  simp only [List.append_assoc] at hd
  obtain ⟨v1, b1, c1⟩ := s_mk h hd a4
  obtain ⟨v2, b2, c2⟩ := m_mk (m := 15) b1 c1 (by omega) (by omega)
  obtain ⟨v3, b3, c3⟩ := m_mk (m := 65536) b2 c2 (by omega) (by omega)
  obtain ⟨v4, b4, c4⟩ := c_mk (m := 16) b3 c3 (by omega) (by omega)
  obtain ⟨v5, b5, c5⟩ := ss_mk b4 c4 (mem_sums a3) x.sums.length (Nat.le_refl _)
  rw [List.take_length] at v5
  rw [List.drop_length] at c5
  have v4 : cV 16 d (hs3 d s) = x.sums.length := v4
  have hN' : hN d s = ssN d (hs4 d s) x.sums.length := by unfold hN; rw [v4]
  rw [hN']
  refine ⟨Hd.ext' v1 ?_ ?_ ?_, b5, c5⟩
  · show (mV 15 d (hs1 d s) : Int) = _
    rw [show mV 15 d (hs1 d s) = _ from v2]; omega
  · show (mV 65536 d (hs2 d s) : Int) = _
    rw [show mV 65536 d (hs2 d s) = _ from v3]; omega
  · show ssV d (hs4 d s) (cV 16 d (hs3 d s)) = _
    rw [v4]; exact v5
theorem p_ok {d : Str} {s : RS} (h : (pN d s).2.2 = 0) : s.2.2 = 0 ∧ d.drop s.1 = encP (pV d s) ++ d.drop (pN d s).1 := by
  obtain ⟨g5, e6, _⟩ := ss_ok _ h
  obtain ⟨g4, e5⟩ := c_ok g5
  obtain ⟨g3, e4⟩ := y_ok g4
  obtain ⟨g2, e3⟩ := m_ok g3
  obtain ⟨g1, e2⟩ := m_ok g2
  obtain ⟨g0, e1, _⟩ := s_ok g1
  refine ⟨g0, ?_⟩
  show _ = (sV d s ++ (num (mV 15 d (hs1 d s) : Int).toNat ++ (num (mV 65024 d (hs2 d s) : Int).toNat ++ (num (yV 512 d (ps3 d s)).length ++ (yV 512 d (ps3 d s) ++ (num (ssV d (ps5 d s) (cV 16 d (ps4 d s))).length ++ cat (ssV d (ps5 d s) (cV 16 d (ps4 d s))))))))) ++ _
  rw [Int.toNat_natCast, Int.toNat_natCast, ssV_length]
  simp only [List.append_assoc]
  rw [e1]; congr 1
  refine Eq.trans e2 ?_; congr 1
  refine Eq.trans e3 ?_; congr 1
  refine Eq.trans e4 ?_; congr 1; congr 1
  refine Eq.trans e5 ?_; congr 1
theorem p_mk {d : Str} {s : RS} {x : Pt} {r : Str} (h : s.2.2 = 0) (w : WfP x) (hd : d.drop s.1 = encP x ++ r) : pV d s = x ∧ (pN d s).2.2 = 0 ∧ d.drop (pN d s).1 = r := by
  obtain ⟨a1, a2, a3, a4, a5, a6, a7, a8, a9, a10⟩ := w
  unfold encP at hd
  simp only [List.append_assoc] at hd
  obtain ⟨v1, b1, c1⟩ := s_mk h hd a1
  obtain ⟨v2, b2, c2⟩ := m_mk (m := 15) b1 c1 (by omega) (by omega)
  obtain ⟨v3, b3, c3⟩ := m_mk (m := 65024) b2 c2 (by omega) (by omega)
  obtain ⟨v4, b4, c4⟩ := y_mk (m := 512) b3 c3 (by omega) (by omega)
  obtain ⟨v5, b5, c5⟩ := c_mk (m := 16) b4 c4 (by omega) (by omega)
  obtain ⟨v6, b6, c6⟩ := ss_mk b5 c5 (mem_sums a10) x.path.length (Nat.le_refl _)
  rw [List.take_length] at v6
  rw [List.drop_length] at c6
  have v5 : cV 16 d (ps4 d s) = x.path.length := v5
  have hN' : pN d s = ssN d (ps5 d s) x.path.length := by unfold pN; rw [v5]
  rw [hN']
  refine ⟨Pt.ext' v1 ?_ ?_ v4 ?_, b6, c6⟩
  · show (mV 15 d (hs1 d s) : Int) = _
    rw [show mV 15 d (hs1 d s) = _ from v2]; omega
  · show (mV 65024 d (hs2 d s) : Int) = _
    rw [show mV 65024 d (hs2 d s) = _ from v3]; omega
  · show ssV d (ps5 d s) (cV 16 d (ps4 d s)) = _
    rw [v5]; exact v6
theorem endE_zero {d : Str} {o : Nat} {e : Int} (h : endE d o e = 0) : e = 0 ∧ d.drop o = [] := by
  unfold endE at h
  by_cases he : e = 0
  · rw [if_pos he] at h
    by_cases hl : o < d.length
    · rw [if_pos hl] at h; cases h
    · exact ⟨he, List.drop_eq_nil_of_le (by omega)⟩
  · rw [if_neg he] at h; exact absurd h he
theorem endE_mk {d : Str} {o : Nat} {e : Int} (h : e = 0) (hd : d.drop o = []) : endE d o e = 0 := by
  unfold endE
  rw [if_pos h, if_neg]
  intro hl
  have := congrArg List.length hd
  rw [List.length_drop] at this
  simp at this; omega
abbrev s00 : RS := (0, 0, 0)
def okH (d : Str) : Prop := endE d (hN d s00).1 (hN d s00).2.2 = 0 ∧ WfH (hV d s00)
instance instDecOkH (d : Str) : Decidable (okH d) := by unfold okH; exact inferInstance
def okP (d : Str) : Prop := endE d (pN d s00).1 (pN d s00).2.2 = 0 ∧ WfP (pV d s00)
instance instDecOkP (d : Str) : Decidable (okP d) := by unfold okP; exact inferInstance
theorem okH_enc {d : Str} (h : okH d) : d = encH (hV d s00) := by
  obtain ⟨h1, h2⟩ := endE_zero h.1
  obtain ⟨_, h4⟩ := h_ok h1
  rw [h2, List.append_nil] at h4
  exact h4
theorem okH_of {x : Hd} (w : WfH x) : okH (encH x) ∧ hV (encH x) s00 = x := by
  obtain ⟨h1, h2, h3⟩ := h_mk (d := encH x) (s := s00) (x := x) (r := []) rfl w (by rw [List.append_nil]; rfl)
  exact ⟨⟨endE_mk h2 h3, by rw [h1]; exact w⟩, h1⟩
theorem okP_enc {d : Str} (h : okP d) : d = encP (pV d s00) := by
  obtain ⟨h1, h2⟩ := endE_zero h.1
  obtain ⟨_, h4⟩ := p_ok h1
  rw [h2, List.append_nil] at h4
  exact h4
theorem okP_of {x : Pt} (w : WfP x) : okP (encP x) ∧ pV (encP x) s00 = x := by
  obtain ⟨h1, h2, h3⟩ := p_mk (d := encP x) (s := s00) (x := x) (r := []) rfl w (by rw [List.append_nil]; rfl)
  exact ⟨⟨endE_mk h2 h3, by rw [h1]; exact w⟩, h1⟩

end Go.Proofs.YtgnmbgbiajgpeaaDoor
