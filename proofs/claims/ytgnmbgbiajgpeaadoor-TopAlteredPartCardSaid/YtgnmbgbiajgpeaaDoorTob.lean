/-
  Top: lists of byte strings in memory; contracts of gf256.MulAdd and of the package matrix.
-/
import Derived.Test.YtgnmbgbiajgpeaaDoorToa
namespace Go.Proofs.YtgnmbgbiajgpeaaDoor
open Go Go.RowKit
set_option linter.unusedVariables false
set_option linter.unusedSimpArgs false

/-! ### byte strings that are read through a list of slices -/
theorem Bs.mono {R R' : Rd} {v : Value} {l : Str} (h : Bs R v l) (hr : ∀ a v, R a v → R' a v) : Bs R' v l := by
  obtain ⟨A, cap, rfl, hc, hs⟩ := h
  exact ⟨A, cap, rfl, hc, SlR.mono hs hr⟩
/-- A slice that reads as these bytes; if 's', it is known to have room for them. -/
def BsX (s : Bool) (R : Rd) (v : Value) (l : Str) : Prop := ∃ A cap, v = .slice A l.length cap ∧ (s = true → l.length ≤ cap) ∧ BsR R v l
theorem Bs.x {s : Bool} {R : Rd} {v : Value} {l : Str} (h : Bs R v l) : BsX s R v l := by
  obtain ⟨A, cap, rfl, hc, hs⟩ := h
  exact ⟨A, cap, rfl, fun _ => hc, hs⟩
theorem BsX.strong {R : Rd} {v : Value} {l : Str} (h : BsX true R v l) : Bs R v l := by
  obtain ⟨A, cap, rfl, hc, hs⟩ := h
  exact ⟨A, cap, rfl, hc rfl, hs⟩
theorem BsX.weak {s : Bool} {R : Rd} {v : Value} {l : Str} (h : BsX s R v l) : BsX false R v l := by
  obtain ⟨A, cap, rfl, _, hs⟩ := h
  exact ⟨A, cap, rfl, (fun h => by cases h), hs⟩
theorem BsX.mono {s : Bool} {R R' : Rd} {v : Value} {l : Str} (h : BsX s R v l) (hr : ∀ a v, R a v → R' a v) : BsX s R' v l := by
  obtain ⟨A, cap, rfl, hc, hs⟩ := h
  exact ⟨A, cap, rfl, hc, SlR.mono hs hr⟩
theorem BsX.rh {s : Bool} {R : Rd} {v : Value} {l : Str} (h : BsX s R v l) (hp : Hp) : BsX s (RH R hp) v l := h.mono fun _ _ => .inl
/-- Slice values that read as these byte strings. -/
def VsR (s : Bool) (R : Rd) (vs : List Value) (l : List Str) : Prop := vs.length = l.length ∧ ∀ (i : Nat) (x : Str), l[i]? = some x → ∃ u, vs[i]? = some u ∧ BsX s R u x
theorem VsR.mono {s : Bool} {R R' : Rd} {vs : List Value} {l : List Str} (h : VsR s R vs l) (hr : ∀ a v, R a v → R' a v) : VsR s R' vs l :=
  ⟨h.1, fun i x hx => by obtain ⟨u, hu, hb⟩ := h.2 i x hx; exact ⟨u, hu, hb.mono hr⟩⟩
theorem VsR.nil (s : Bool) (R : Rd) : VsR s R [] [] := ⟨rfl, fun i x h => by simp at h⟩
theorem VsR.snoc {s : Bool} {R : Rd} {vs : List Value} {l : List Str} {u : Value} {x : Str} (h : VsR s R vs l) (hu : BsX s R u x) : VsR s R (vs ++ [u]) (l ++ [x]) := by
  refine ⟨by rw [List.length_append, List.length_append, h.1]; rfl, fun i y hy => ?_⟩
  rcases Nat.lt_or_ge i l.length with hi | hi
  · rw [List.getElem?_append_left hi] at hy
    obtain ⟨w, hw, hb⟩ := h.2 i y hy
    exact ⟨w, by rw [List.getElem?_append_left (by rw [h.1]; exact hi)]; exact hw, hb⟩
  · rw [List.getElem?_append_right hi] at hy
    have hi2 : i - l.length = 0 := by have := (List.getElem?_eq_some_iff.1 hy).1; simp at this; omega
    rw [hi2] at hy
    cases hy
    exact ⟨u, by rw [List.getElem?_append_right (by rw [h.1]; exact hi), h.1, hi2]; rfl, hu⟩
theorem VsR.set {s : Bool} {R : Rd} {vs : List Value} {l : List Str} {u : Value} {x : Str} (h : VsR s R vs l) (hu : BsX s R u x) (i : Nat) : VsR s R (vs.set i u) (l.set i x) := by
  refine ⟨by rw [List.length_set, List.length_set]; exact h.1, fun j y hy => ?_⟩
  rw [List.getElem?_set] at hy ⊢
  by_cases e : i = j
  · rw [if_pos e] at hy ⊢
    subst e
    by_cases hi : i < l.length
    · rw [if_pos hi] at hy
      cases hy
      exact ⟨u, if_pos (by rw [h.1]; exact hi), hu⟩
    · rw [if_neg hi] at hy; cases hy
  · rw [if_neg e] at hy ⊢
    exact h.2 j y hy
theorem VsR.one_ {s : Bool} {vs : List Value} {l : List Str} {R : Rd} (h : VsR s R vs l) : allOne vs = true := allOne_of fun u hu => by
  obtain ⟨i, hi⟩ := List.getElem?_of_mem hu
  have hlt := (List.getElem?_eq_some_iff.1 hi).1
  obtain ⟨x, hx⟩ : ∃ x, l[i]? = some x := ⟨_, List.getElem?_eq_getElem (by rw [← h.1]; exact hlt)⟩
  obtain ⟨w, hw, A, cap, rfl, _⟩ := h.2 i x hx
  rw [hi] at hw
  cases hw
  rfl
/-- A slice of slices of bytes that is read. -/
def Bss (s : Bool) (R : Rd) (v : Value) (l : List Str) : Prop := ∃ (A : Option Addr) (cap : Nat) (vs : List Value), v = .slice A l.length cap ∧ SlR R 1 v l.length vs ∧ VsR s R vs l
theorem Bss.mono {s : Bool} {R R' : Rd} {v : Value} {l : List Str} (h : Bss s R v l) (hr : ∀ a v, R a v → R' a v) : Bss s R' v l := by
  obtain ⟨A, cap, vs, rfl, hs, hv⟩ := h
  exact ⟨A, cap, vs, rfl, hs.mono hr, hv.mono hr⟩
theorem Bss.rh {s : Bool} {R : Rd} {v : Value} {l : List Str} (h : Bss s R v l) (hp : Hp) : Bss s (RH R hp) v l := h.mono fun _ _ => .inl
theorem Bss.weak {s : Bool} {R : Rd} {v : Value} {l : List Str} (h : Bss s R v l) : Bss false R v l := by
  obtain ⟨A, cap, vs, rfl, hs, hv⟩ := h
  exact ⟨A, cap, vs, rfl, hs, hv.1, fun i x hx => by obtain ⟨u, hu, hb⟩ := hv.2 i x hx; exact ⟨u, hu, hb.weak⟩⟩
theorem Bss.at_ {s : Bool} {R : Rd} {A : Option Addr} {n cap : Nat} {l : List Str} (h : Bss s R (.slice A n cap) l) {i : Nat} (hi : i < l.length) :
    ∃ a B bc, A = some a ∧ R (addA a (Int.toNat (i : Int) * 1)) (.slice B (l.getD i []).length bc) ∧ BsX s R (.slice B (l.getD i []).length bc) (l.getD i []) := by
  obtain ⟨A', cap', vs, e, ⟨_, A2, c2, e2, hr⟩, hv⟩ := h
  cases e
  cases e2
  have hx : l[i]? = some (l.getD i []) := by rw [List.getD_eq_getElem?_getD, List.getElem?_eq_getElem hi]; rfl
  obtain ⟨u, hu, hb⟩ := hv.2 i _ hx
  obtain ⟨a, rfl, hra⟩ := hr i u hu
  have hb' := hb
  obtain ⟨B, bc, rfl, _⟩ := hb'
  exact ⟨a, B, bc, rfl, by rw [toNat1, ← addA_eq]; exact hra, hb⟩
theorem Bss.own {s : Bool} {R : Rd} {h : Hp} (i : Nat) {A : Option Addr} {n cap : Nat} {e : TypeId} {vs : List Value} {fz : Nat × Nat} {l : List Str} (hi : h[i]? = some (.row A n cap e 1 vs fz)) (hg : grow n A) (hn : n = l.length) (hv : VsR s (RH R h) vs l) : Bss s (RH R h) (.slice A n cap) l := by
  subst hn
  exact ⟨_, cap, vs, rfl, SlR.own i hi (by rw [hv.1, Nat.mul_one]) hg, hv⟩
/-- Memory that is only read from now on. -/
def noC : Rd := fun _ _ => False
theorem Ent.ro0 (h : Hp) : Ent h (h ++ [.ro [] noC]) := fun w o => by
  refine ⟨⟨fun x hx => ?_, by simpa [idsOf, HA.ids] using o.nd⟩, fun g hg => by simpa [idsOf, HA.ids] using hg⟩
  rcases List.mem_append.1 hx with hx | hx
  · exact o.all x hx
  · rw [List.mem_singleton.1 hx]
    have : HA.holds w (.ro [] noC) := ⟨(fun g hg => by cases hg), (fun a v hv => False.elim hv)⟩
    exact this
theorem cells_rh {h : Hp} {a : Addr} {v : Value} (hc : RH noC h a v) : cellsOf h a v := hc.elim False.elim id
theorem cells_in {h : Hp} (i : Nat) {x : HA} (hi : h[i]? = some x) {a : Addr} {v : Value} (hc : x.cell a v) : cellsOf h a v := ⟨x, List.mem_of_getElem? hi, hc⟩
theorem ro_in {h : Hp} (i : Nat) {ids : List Nat} {C : Rd} (hi : h[i]? = some (.ro ids C)) : ∀ a v, C a v → cellsOf h a v := fun a v hv => cells_in i hi hv
theorem ro_rh {R : Rd} {h : Hp} (i : Nat) {ids : List Nat} {C : Rd} (hi : h[i]? = some (.ro ids C)) : ∀ a v, C a v → RH R h a v := fun a v hv => ldro i hi hv
def OwnBss (v : Value) (l : List Str) (h : Hp) : Prop := ∃ ids C, h = [.ro ids C] ∧ Bss true C v l

/-! ### gf256.MulAdd -/
def maddL (dst src : Str) (c : UInt8) : Str := (List.range src.length).map fun i => gsc c (src.getD i 0) ^^^ dst.getD i 0
theorem maddL_length (dst src : Str) (c : UInt8) : (maddL dst src c).length = src.length := by simp [maddL]
set_option maxRecDepth 100000 in
set_option maxHeartbeats 2000000 in
theorem MulAdd_ok (R : Rd) (dst src : Str) (c : UInt8) (v0 v1 : Value) (he : dst.length = src.length) (hl : src.length ≤ 100000000) (hd : BsX false R v0 dst) (hs : BsX false R v1 src) : Fn Tryd.prog 96 [v0, v1, .int .u8 c.toNat] [] R
    (fun v h => ∃ g, v = .tuple ⟨[.slice (some ⟨g, 0, .none⟩) src.length src.length, .int .i64 0]⟩ ∧ h = [.row (some ⟨g, 0, .none⟩) src.length src.length 5 1 (BV (maddL dst src c)) (0, 0)]) := by
  obtain ⟨A, cap, rfl, _, hd⟩ := hd
  obtain ⟨B, bc, rfl, _, hs⟩ := hs
  refine fn_of_vc mixed tabOk Tryd.func96 rfl (by kernel_rfl) (Nat.le_of_ble_eq_true rfl) ?_
  repeat (first | (refine ⟨fun h => ?_, fun h => ?_⟩; rotate_left 1; (focus (exfalso; (first | (with_reducible (cases h; done)) | (revert h; simp; done) | (revert h; simp; omega) | (revert h; simp [*]; done)))); clear h) | (refine ⟨fun h => ?_, fun h => ?_⟩; (focus (exfalso; (first | (with_reducible (cases h; done)) | (revert h; simp; done) | (revert h; simp; omega) | (revert h; simp [*]; done)))); clear h))
  refine ⟨[], _, Scale_ok0 _ src c B bc hl (hs.rh _), ?_⟩
  rintro _ _ ⟨g, rfl, rfl⟩
  refine ⟨[none, none, none, none, none, none, none, none, none, some 9, some 10, none, none, none, none, none, none, none, none, none, none, some 21, some 22, some 23, some 24, some 25, some 26, some 27, some 28, some 29, some 30, some 31, some 32, some 33], [21], Nat, fun k => k ≤ src.length, fun k => [.int .i64 k], fun k => [.row (some ⟨g, 0, .none⟩) src.length src.length 5 1 (BV (tabM (fun i => gsc c (src.getD i 0) ^^^ dst.getD i 0) (fun i => gsc c (src.getD i 0)) src.length k)) (0, 0)], fun k => src.length - k, 0, Nat.zero_le _, ⟨rfl, trivial⟩, ?_, ?_⟩
  · show Ent _ [.row (some ⟨g, 0, .none⟩) src.length src.length 5 1 (BV (tabM (fun i => gsc c (src.getD i 0) ^^^ dst.getD i 0) (fun i => gsc c (src.getD i 0)) src.length 0)) (0, 0)]
    rw [tabM_none]
    exact Ent.refl _
  intro k hk js
  have hk : k ≤ src.length := hk
  by_cases d : k < src.length
  · have d1 : k < dst.length := by omega
    repeat (first | (refine ⟨fun h => ?_, fun h => ?_⟩; rotate_left 1; (focus (exfalso; (first | (with_reducible (cases h; done)) | (revert h; simp; done) | (revert h; simp; omega) | (revert h; simp [*]; done)))); clear h) | (refine ⟨fun h => ?_, fun h => ?_⟩; (focus (exfalso; (first | (with_reducible (cases h; done)) | (revert h; simp; done) | (revert h; simp; omega) | (revert h; simp [*]; done)))); clear h))
    obtain ⟨a, rfl, hra⟩ := hd.one d1
    refine ⟨by omega, by omega, a, rfl, ?_⟩
    refine ⟨_, .inl hra, ?_⟩
    refine ⟨by omega, by omega, _, rfl, ?_⟩
    refine ⟨_, ldr1 0 rfl (BV_get (tabM_get d)), ?_⟩
    rw [if_neg (Nat.lt_irrefl k)]
    intro z hz
    obtain rfl := bxor hz
    clear hz
    refine ⟨by omega, by omega, _, rfl, ?_⟩
    refine ⟨rfl, rfl, 0, nthK_mk rfl (strow (by rw [BV_length, tabM_length]; omega) ?_)⟩
    (intro z hz; obtain rfl : z = ((k + 1 : Nat) : Int) := (by first | (rw [IntKind.wrap_i64] at hz; omega) | (rw [IntKind.wrap_u64] at hz; omega) | omega); clear hz)
    refine ⟨rfl, k + 1, d, by show src.length - (k + 1) < src.length - k; omega, ⟨rfl, trivial⟩, ?_, rfl⟩
    show Ent _ [.row (some ⟨g, 0, .none⟩) src.length src.length 5 1 (BV (tabM (fun i => gsc c (src.getD i 0) ^^^ dst.getD i 0) _ src.length (k + 1))) (0, 0)]
    rw [← tabM_setV]
    exact Ent.refl _
  · repeat (first | (refine ⟨fun h => ?_, fun h => ?_⟩; rotate_left 1; (focus (exfalso; (first | (with_reducible (cases h; done)) | (revert h; simp; done) | (revert h; simp; omega) | (revert h; simp [*]; done)))); clear h) | (refine ⟨fun h => ?_, fun h => ?_⟩; (focus (exfalso; (first | (with_reducible (cases h; done)) | (revert h; simp; done) | (revert h; simp; omega) | (revert h; simp [*]; done)))); clear h))
    obtain rfl : k = src.length := by omega
    refine ⟨_, Ent.refl _, g, rfl, ?_⟩
    show [HA.row _ _ _ _ _ (BV (tabM _ _ _ _)) _] = _
    rw [tabM_full]; rfl

/-! ### matrix -/
def nilS : Value := .slice none 0 0
set_option maxRecDepth 100000 in
set_option maxHeartbeats 2000000 in
theorem zeros_ok (R : Rd) (rows cols : Nat) (hr : rows ≤ 1000) (hcl : cols ≤ 100000000) : Fn Tryd.prog 95 [.int .i64 rows, .int .i64 cols] [] R
    (fun v h => ∃ g vs ids C, v = .slice (some ⟨g, 0, .none⟩) rows rows ∧ h = [.row (some ⟨g, 0, .none⟩) rows rows 25 1 vs (0, 0), .ro ids C] ∧ VsR true C vs (List.replicate rows (List.replicate cols 0))) := by
  have hML := maxLen_eq
  refine fn_of_vc mixed tabOk Tryd.func95 rfl (by kernel_rfl) (Nat.le_of_ble_eq_true rfl) ?_
  refine ⟨by omega, by omega, by show (24 : Int) * _ ≤ _; omega, by omega, fun g => ?_⟩
  refine ⟨[none, none, none, none, none, none, some 6, none, none, none, none, some 11, some 12, some 13, some 14, some 15, some 16, some 17, some 18, some 19], [11], Nat × List Value × List Nat × Rd, fun ⟨k, vs, _, C⟩ => k ≤ rows ∧ VsR true C vs (List.replicate k (List.replicate cols 0)), fun ⟨k, _⟩ => [.int .i64 k],
    fun ⟨k, vs, ids, C⟩ => [.row (some ⟨g, 0, .none⟩) rows rows 25 1 (vs ++ List.replicate (rows - k) nilS) (0, 0), .ro ids C], fun ⟨k, _⟩ => rows - k, (0, [], [], noC), ⟨Nat.zero_le _, VsR.nil _ _⟩, ⟨rfl, trivial⟩, ?_, ?_⟩
  · show Ent [.row (some ⟨g, 0, .none⟩) rows rows 25 1 (repl [nilS] rows) (0, 0)] ([.row (some ⟨g, 0, .none⟩) rows rows 25 1 (List.replicate rows nilS) (0, 0)] ++ [.ro [] noC])
    rw [repl1]
    exact Ent.ro0 _
  rintro ⟨k, vs, ids, C⟩ ⟨hk, hv⟩ js
  have hk : k ≤ rows := hk
  have hvl : vs.length = k := by rw [hv.1, List.length_replicate]
  by_cases d : k < rows
  · repeat (first | (refine ⟨fun h => ?_, fun h => ?_⟩; rotate_left 1; (focus (exfalso; (first | (with_reducible (cases h; done)) | (revert h; simp; done) | (revert h; simp; omega) | (revert h; simp [*]; done)))); clear h) | (refine ⟨fun h => ?_, fun h => ?_⟩; (focus (exfalso; (first | (with_reducible (cases h; done)) | (revert h; simp; done) | (revert h; simp; omega) | (revert h; simp [*]; done)))); clear h))
    refine ⟨by omega, by omega, by show (1 : Int) * _ ≤ _; omega, by omega, fun g2 => ?_⟩
    refine ⟨by omega, by omega, _, rfl, ?_⟩
    refine ⟨rfl, rfl, 0, nthK_mk rfl (strow (by rw [List.length_append, List.length_replicate]; omega) ?_)⟩
    (intro z hz; obtain rfl : z = ((k + 1 : Nat) : Int) := (by first | (rw [IntKind.wrap_i64] at hz; omega) | (rw [IntKind.wrap_u64] at hz; omega) | omega); clear hz)
    refine ⟨rfl, (k + 1, vs ++ [.slice (some ⟨g2, 0, .none⟩) cols cols], idsOf [.ro ids C, .row (some ⟨g2, 0, .none⟩) cols cols 5 1 (repl [.int .u8 0] cols) (0, 0)], cellsOf [.ro ids C, .row (some ⟨g2, 0, .none⟩) cols cols 5 1 (repl [.int .u8 0] cols) (0, 0)]), ⟨d, ?_⟩, by show rows - (k + 1) < rows - k; omega, ⟨rfl, trivial⟩, ?_, rfl⟩
    · rw [List.replicate_succ']
      refine VsR.snoc (hv.mono (ro_in 0 rfl)) ?_
      have hb : BsR (RH noC [.ro ids C, .row (some ⟨g2, 0, .none⟩) cols cols 5 1 (repl [.int .u8 0] cols) (0, 0)]) (.slice (some ⟨g2, 0, .none⟩) cols cols) (List.replicate cols 0) := BsR.own 1 rfl (by rw [List.length_replicate]) (by rw [repl1]; simp [BV]) (.inr ⟨g2, rfl⟩)
      exact ⟨_, cols, by rw [List.length_replicate], fun _ => by rw [List.length_replicate]; exact Nat.le_refl _, SlR.mono hb fun _ _ => cells_rh⟩
    · show Ent ([.row (some ⟨g, 0, .none⟩) rows rows 25 1 ((vs ++ List.replicate (rows - k) nilS).set k (.slice (some ⟨g2, 0, .none⟩) cols cols)) (0, 0)] ++ [.ro ids C, .row (some ⟨g2, 0, .none⟩) cols cols 5 1 (repl [.int .u8 0] cols) (0, 0)])
        ([.row (some ⟨g, 0, .none⟩) rows rows 25 1 ((vs ++ [.slice (some ⟨g2, 0, .none⟩) cols cols]) ++ List.replicate (rows - (k + 1)) nilS) (0, 0)] ++ [.ro _ _])
      have e : (vs ++ List.replicate (rows - k) nilS).set k (.slice (some ⟨g2, 0, .none⟩) cols cols) = (vs ++ [.slice (some ⟨g2, 0, .none⟩) cols cols]) ++ List.replicate (rows - (k + 1)) nilS := by
        rw [List.set_append_right _ _ (by omega), hvl, Nat.sub_self, show rows - k = (rows - (k + 1)) + 1 by omega, List.replicate_succ, List.set_cons_zero, List.append_assoc]; rfl
      rw [e]
      exact Ent.freeze _ _
  · repeat (first | (refine ⟨fun h => ?_, fun h => ?_⟩; rotate_left 1; (focus (exfalso; (first | (with_reducible (cases h; done)) | (revert h; simp; done) | (revert h; simp; omega) | (revert h; simp [*]; done)))); clear h) | (refine ⟨fun h => ?_, fun h => ?_⟩; (focus (exfalso; (first | (with_reducible (cases h; done)) | (revert h; simp; done) | (revert h; simp; omega) | (revert h; simp [*]; done)))); clear h))
    obtain rfl : k = rows := by omega
    refine ⟨_, Ent.refl _, g, vs, ids, C, rfl, ?_, hv⟩
    show [HA.row _ _ _ _ _ (vs ++ List.replicate (k - k) nilS) _, _] = _
    rw [Nat.sub_self, List.replicate_zero, List.append_nil]

theorem columns_ok {s : Bool} (R : Rd) (l : List Str) (v : Value) (hs : Bss s R v l) : Fn Tryd.prog 90 [v] [] R (fun v h => v = .int .i64 ((l.getD 0 []).length : Nat) ∧ h = []) := by
  have hs' := hs
  obtain ⟨A, cap, vs, rfl, _⟩ := hs'
  refine fn_of_vc mixed tabOk Tryd.func90 rfl (by kernel_rfl) (Nat.le_of_ble_eq_true rfl) ?_
  by_cases c : l.length = 0
  · repeat (first | (refine ⟨fun h => ?_, fun h => ?_⟩; rotate_left 1; (focus (exfalso; (first | (with_reducible (cases h; done)) | (revert h; simp; done) | (revert h; simp; omega) | (revert h; simp [*]; done)))); clear h) | (refine ⟨fun h => ?_, fun h => ?_⟩; (focus (exfalso; (first | (with_reducible (cases h; done)) | (revert h; simp; done) | (revert h; simp; omega) | (revert h; simp [*]; done)))); clear h))
    obtain rfl := List.eq_nil_of_length_eq_zero c
    exact ⟨_, Ent.refl _, rfl, rfl⟩
  · repeat (first | (refine ⟨fun h => ?_, fun h => ?_⟩; rotate_left 1; (focus (exfalso; (first | (with_reducible (cases h; done)) | (revert h; simp; done) | (revert h; simp; omega) | (revert h; simp [*]; done)))); clear h) | (refine ⟨fun h => ?_, fun h => ?_⟩; (focus (exfalso; (first | (with_reducible (cases h; done)) | (revert h; simp; done) | (revert h; simp; omega) | (revert h; simp [*]; done)))); clear h))
    obtain ⟨a, B, bc, rfl, hra, hb⟩ := hs.at_ (i := 0) (by omega)
    refine ⟨by omega, by omega, a, rfl, ?_⟩
    refine ⟨_, .inl hra, ?_⟩
    exact ⟨_, Ent.refl _, rfl, rfl⟩
/-- A matrix: rows of one length. -/
structure MatR (l : List Str) (n : Nat) : Prop where
  len : l.length ≤ 64
  pos : 0 < l.length
  col : n ≤ 64
  row : ∀ x ∈ l, x.length = n
theorem MatR.get {l : List Str} {n : Nat} (h : MatR l n) {i : Nat} (hi : i < l.length) : (l.getD i []).length = n := by
  rw [List.getD_eq_getElem?_getD, List.getElem?_eq_getElem hi]
  exact h.row _ (List.getElem_mem hi)
set_option maxRecDepth 100000 in
set_option maxHeartbeats 2000000 in
theorem MValid_ok {s : Bool} (R : Rd) (l : List Str) (n : Nat) (v : Value) (hm : MatR l n) (hs : Bss s R v l) : Fn Tryd.prog 89 [v] [] R (fun v h => v = .bool true ∧ h = []) := by
  have hs' := hs
  obtain ⟨A, cap, vs, rfl, _⟩ := hs'
  have hl := hm.len
  have hp := hm.pos
  have hn := hm.col
  have h0 := hm.get hp
  obtain ⟨a0, B0, bc0, hA0, hra0, hb0⟩ := hs.at_ hp
  rw [h0] at hra0
  clear hb0
  refine fn_of_vc mixed tabOk Tryd.func89 rfl (by kernel_rfl) (Nat.le_of_ble_eq_true rfl) ?_
  repeat (first | (refine ⟨fun h => ?_, fun h => ?_⟩; rotate_left 1; (focus (exfalso; (first | (with_reducible (cases h; done)) | (revert h; simp; done) | (revert h; simp; omega) | (revert h; simp [*]; done)))); clear h) | (refine ⟨fun h => ?_, fun h => ?_⟩; (focus (exfalso; (first | (with_reducible (cases h; done)) | (revert h; simp; done) | (revert h; simp; omega) | (revert h; simp [*]; done)))); clear h))
  refine ⟨[], _, columns_ok _ l _ (hs.rh _), ?_⟩
  rw [h0]
  rintro _ _ ⟨rfl, rfl⟩
  repeat (first | (refine ⟨fun h => ?_, fun h => ?_⟩; rotate_left 1; (focus (exfalso; (first | (with_reducible (cases h; done)) | (revert h; simp; done) | (revert h; simp; omega) | (revert h; simp [*]; done)))); clear h) | (refine ⟨fun h => ?_, fun h => ?_⟩; (focus (exfalso; (first | (with_reducible (cases h; done)) | (revert h; simp; done) | (revert h; simp; omega) | (revert h; simp [*]; done)))); clear h))
  refine ⟨[none, none, some 2, none, some 4, none, none, none, none, none, none, none, none, none, none, some 15, some 16, some 17, some 18, some 19, some 20, some 21, some 22, some 23, some 24, some 25, some 26], [15], Nat, fun k => k ≤ l.length, fun k => [.int .i64 k], fun _ => [], fun k => l.length - k, 0, Nat.zero_le _, ⟨rfl, trivial⟩, Ent.refl _, ?_⟩
  intro k hk js
  have hk : k ≤ l.length := hk
  by_cases d : k < l.length
  · repeat (first | (refine ⟨fun h => ?_, fun h => ?_⟩; rotate_left 1; (focus (exfalso; (first | (with_reducible (cases h; done)) | (revert h; simp; done) | (revert h; simp; omega) | (revert h; simp [*]; done)))); clear h) | (refine ⟨fun h => ?_, fun h => ?_⟩; (focus (exfalso; (first | (with_reducible (cases h; done)) | (revert h; simp; done) | (revert h; simp; omega) | (revert h; simp [*]; done)))); clear h))
    obtain ⟨a, B, bc, hA, hra, hb⟩ := hs.at_ d
    rw [hm.get d] at hra
    clear hb
    refine ⟨by omega, by omega, a, hA, ?_⟩
    refine ⟨_, .inl hra, ?_⟩
    refine ⟨by omega, by omega, a0, hA0, ?_⟩
    refine ⟨_, .inl hra0, ?_⟩
    repeat (first | (refine ⟨fun h => ?_, fun h => ?_⟩; rotate_left 1; (focus (exfalso; (first | (with_reducible (cases h; done)) | (revert h; simp; done) | (revert h; simp; omega) | (revert h; simp [*]; done)))); clear h) | (refine ⟨fun h => ?_, fun h => ?_⟩; (focus (exfalso; (first | (with_reducible (cases h; done)) | (revert h; simp; done) | (revert h; simp; omega) | (revert h; simp [*]; done)))); clear h))
    (intro z hz; obtain rfl : z = ((k + 1 : Nat) : Int) := (by first | (rw [IntKind.wrap_i64] at hz; omega) | (rw [IntKind.wrap_u64] at hz; omega) | omega); clear hz)
    exact ⟨rfl, k + 1, d, by show l.length - (k + 1) < l.length - k; omega, ⟨rfl, trivial⟩, Ent.refl _, rfl⟩
  · repeat (first | (refine ⟨fun h => ?_, fun h => ?_⟩; rotate_left 1; (focus (exfalso; (first | (with_reducible (cases h; done)) | (revert h; simp; done) | (revert h; simp; omega) | (revert h; simp [*]; done)))); clear h) | (refine ⟨fun h => ?_, fun h => ?_⟩; (focus (exfalso; (first | (with_reducible (cases h; done)) | (revert h; simp; done) | (revert h; simp; omega) | (revert h; simp [*]; done)))); clear h))
    exact ⟨_, Ent.refl _, rfl, rfl⟩

end Go.Proofs.YtgnmbgbiajgpeaaDoor
