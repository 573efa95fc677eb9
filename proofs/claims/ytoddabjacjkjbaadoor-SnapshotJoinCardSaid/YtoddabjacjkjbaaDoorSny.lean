/-
  The reference's logs: Forget, Hold, Next, Add.
-/
import Derived.Test.YtoddabjacjkjbaaDoorSnx
namespace Go.Proofs.YtoddabjacjkjbaaDoor
open Go Go.RowKit
set_option linter.unusedVariables false

/-- The list itself, or a new one. -/
def Nw (A : Option Addr) (cap : Nat) (l l' : List Mk) (v : Value) (h : Hp) : Prop :=
  (v = .slice A l.length cap ∧ h = [] ∧ l' = l) ∨ ∃ A' cap', grow l'.length A' ∧ v = .slice A' l'.length cap' ∧ h = [.row A' l'.length cap' 242 11 (mks l') (0, 0)]
theorem Nw.old (A : Option Addr) (cap : Nat) (l : List Mk) : Nw A cap l l (.slice A l.length cap) [] := .inl ⟨rfl, rfl, rfl⟩
theorem Nw.new {A A' : Option Addr} {cap cap' n : Nat} {l l' : List Mk} (hn : n = l'.length) (hg : grow n A') : Nw A cap l l' (.slice A' n cap') [.row A' n cap' 242 11 (mks l') (0, 0)] := by
  subst hn; exact .inr ⟨A', cap', hg, rfl, rfl⟩

theorem mks_set {v : Value} {k : Nat} {y y' : Mk} (hk : k < 11) (hy : y'.cells = y.cells.set k v) : ∀ {l : List Mk} {i : Nat}, l[i]? = some y → (mks l).set (i * 11 + k) v = mks (l.set i y')
  | [], i, h => by simp at h
  | x :: l, 0, h => by
    have hxy : x = y := by simpa using h
    show (x.cells ++ mks l).set (0 * 11 + k) v = y'.cells ++ mks l
    rw [Nat.zero_mul, Nat.zero_add, List.set_append_left _ _ (by rw [Mk.cells_length]; exact hk), hy, hxy]
  | x :: l, i + 1, h => by
    have h' : l[i]? = some y := by simpa using h
    show (x.cells ++ mks l).set ((i + 1) * 11 + k) v = x.cells ++ mks (l.set i y')
    have e : (i + 1) * 11 + k - 11 = i * 11 + k := by omega
    rw [List.set_append_right _ _ (by rw [Mk.cells_length]; omega), ← mks_set hk hy h', Mk.cells_length, e]
theorem addA_mrk (qa i j : Nat) : addA (⟨qa, 0, .none⟩ : Addr) (i * 11) = ⟨qa, i * 11, .none⟩ ∧ addA (⟨qa, i * 11, .none⟩ : Addr) j = ⟨qa, i * 11 + j, .none⟩ := by
  refine ⟨?_, by cases j <;> rfl⟩
  cases i * 11 with
  | zero => rfl
  | succ n => show (⟨qa, 0 + (n + 1), .none⟩ : Addr) = _; rw [Nat.zero_add]

def rForget (l : List Mk) (w q : Int) : List Mk × Int :=
  match rFind l w q with
  | .none => (l, 4)
  | some i => match l[i]? with
    | .none => (l, 4)
    | some m => if m.fo = true then (l, 6) else if m.s.hd = true then (l, 14) else (l.set i { m with fo := true }, 0)
def rHold (l : List Mk) (w q : Int) (b : Bool) : List Mk × Int :=
  match rFind l w q with
  | .none => (l, 4)
  | some i => match l[i]? with
    | .none => (l, 4)
    | some m => if m.fo = true then (l, 6) else (l.set i { m with s := { m.s with hd := b } }, 0)
theorem rFind_lt {l : List Mk} {w q : Int} {i : Nat} (h : rFind l w q = some i) : i < l.length := (List.findIdx?_eq_some_iff_getElem.1 h).1
theorem findC_get {C : Lg} {w q : Int} {x : Rec} (hC : GoodC C) (h : findC C w q = some x) : ∃ n i : Nat, n < 12 ∧ w = n ∧ i = (q - 1).toNat ∧ (C n)[i]? = some x := by
  have h1 := findC_some h
  by_cases hw : 0 ≤ w ∧ w ≤ 11
  · obtain ⟨n, rfl⟩ := Int.eq_ofNat_of_zero_le hw.1
    exact ⟨n, _, by omega, rfl, rfl, h1⟩
  · rw [hC.out w hw] at h1; simp at h1
theorem rForget_flat {C : Lg} (hC : GoodC C) (w q : Int) : rForget (flatC C) w q = (flatC (forgetC C w q).1, (forgetC C w q).2) := by
  unfold rForget forgetC
  rw [rFind_flat hC]
  cases hf : findC C w q with
  | none => rfl
  | some x =>
    obtain ⟨n, i, hn, rfl, hi, hx⟩ := findC_get hC hf
    rw [if_pos (show (some x).isSome = true from rfl), ← hi, Int.toNat_natCast]
    show (match (flatC C)[(flatN C 0 n).length + i]? with
      | .none => (flatC C, (4 : Int))
      | some m => if m.fo = true then (flatC C, 6) else if m.s.hd = true then (flatC C, 14) else ((flatC C).set ((flatN C 0 n).length + i) { m with fo := true }, 0)) = (flatC (if x.fo = true then (C, (6 : Int)) else if x.he = true then (C, 14) else (updC C n ((C n).set i { x with fo := true }), 0)).1, (if x.fo = true then (C, (6 : Int)) else if x.he = true then (C, 14) else (updC C n ((C n).set i { x with fo := true }), 0)).2)
    rw [flatC_get hn hx]
    show (if x.fo = true then (flatC C, (6 : Int)) else if x.he = true then (flatC C, 14) else ((flatC C).set ((flatN C 0 n).length + i) { x.mk' with fo := true }, 0)) = _
    by_cases h1 : x.fo = true
    · rw [if_pos h1, if_pos h1]
    · rw [if_neg h1, if_neg h1]
      by_cases h2 : x.he = true
      · rw [if_pos h2, if_pos h2]
      · rw [if_neg h2, if_neg h2]
        have := flatC_set hn ({ x with fo := true } : Rec) (List.getElem?_eq_some_iff.1 hx).1
        show ((flatC C).set ((flatN C 0 n).length + i) ({ x with fo := true } : Rec).mk', (0 : Int)) = _
        rw [this]
theorem rHold_flat {C : Lg} (hC : GoodC C) (w q : Int) (b : Bool) : rHold (flatC C) w q b = (flatC (holdC C w q b).1, (holdC C w q b).2) := by
  unfold rHold holdC
  rw [rFind_flat hC]
  cases hf : findC C w q with
  | none => rfl
  | some x =>
    obtain ⟨n, i, hn, rfl, hi, hx⟩ := findC_get hC hf
    rw [if_pos (show (some x).isSome = true from rfl), ← hi, Int.toNat_natCast]
    show (match (flatC C)[(flatN C 0 n).length + i]? with
      | .none => (flatC C, (4 : Int))
      | some m => if m.fo = true then (flatC C, 6) else ((flatC C).set ((flatN C 0 n).length + i) { m with s := { m.s with hd := b } }, 0)) = (flatC (if x.fo = true then (C, (6 : Int)) else (updC C n ((C n).set i { x with he := b }), 0)).1, (if x.fo = true then (C, (6 : Int)) else (updC C n ((C n).set i { x with he := b }), 0)).2)
    rw [flatC_get hn hx]
    show (if x.fo = true then (flatC C, (6 : Int)) else ((flatC C).set ((flatN C 0 n).length + i) { x.mk' with s := { x.mk'.s with hd := b } }, 0)) = _
    by_cases h1 : x.fo = true
    · rw [if_pos h1, if_pos h1]
    · rw [if_neg h1, if_neg h1]
      have := flatC_set hn ({ x with he := b } : Rec) (List.getElem?_eq_some_iff.1 hx).1
      show ((flatC C).set ((flatN C 0 n).length + i) ({ x with he := b } : Rec).mk', (0 : Int)) = _
      rw [this]

set_option maxRecDepth 100000 in
set_option maxHeartbeats 4000000 in
theorem refForget_ok (R : Rd) {A : Option Addr} {cap : Nat} {l : List Mk} (hs : MkR R A cap l) (hn : l.length ≤ 1000000) (w q : Int) :
    Fn Tryd.prog 133 [.slice A l.length cap, .int .i64 w, .int .i64 q] [] R (fun v h => ∃ u, v = .tuple ⟨[u, .int .i64 (rForget l w q).2]⟩ ∧ Nw A cap l (rForget l w q).1 u h) := by
  have hML := maxLen_eq
  refine fn_of_vc mixed tabOk Tryd.func133 rfl (by kernel_rfl) (Nat.le_of_ble_eq_true rfl) ?_
  refine ⟨[], _, reffind_ok _ (hs.rh _) hn w q, ?_⟩
  rintro _ _ ⟨rfl, rfl⟩
  cases hf : rFind l w q with
  | none =>
    have e : rForget l w q = (l, 4) := by unfold rForget; rw [hf]
    rw [e]
    have hm : idxV .none < 0 := by decide
    repeat (first | (refine ⟨fun h => ?_, fun h => ?_⟩; rotate_left 1; (focus (exfalso; (first | (with_reducible (cases h; done)) | (revert h; simp; done) | (revert h; simp; omega) | (revert h; simp [*]; done)))); clear h) | (refine ⟨fun h => ?_, fun h => ?_⟩; (focus (exfalso; (first | (with_reducible (cases h; done)) | (revert h; simp; done) | (revert h; simp; omega) | (revert h; simp [*]; done)))); clear h))
    exact ⟨_, Ent.refl _, _, rfl, Nw.old A cap l⟩
  | some i =>
    have hil := rFind_lt hf
    have hget := List.getElem?_eq_getElem hil
    generalize l[i] = x at hget
    have e : rForget l w q = if x.fo = true then (l, 6) else if x.s.hd = true then (l, 14) else (l.set i { x with fo := true }, 0) := by
      unfold rForget; rw [hf]
      show (match l[i]? with
        | .none => (l, (4 : Int))
        | some m => if m.fo = true then (l, 6) else if m.s.hd = true then (l, 14) else (l.set i { m with fo := true }, 0)) = _
      rw [hget]
    rw [e]
    have hi0 : idxV (some i) = (i : Int) := rfl
    rw [hi0]
    obtain ⟨a, hA, hr⟩ := slr_at (c := Mk.cells) (fun _ => rfl) (by omega) hs hget
    repeat (first | (refine ⟨fun h => ?_, fun h => ?_⟩; rotate_left 1; (focus (exfalso; (first | (with_reducible (cases h; done)) | (revert h; simp; done) | (revert h; simp; omega) | (revert h; simp [*]; done)))); clear h) | (refine ⟨fun h => ?_, fun h => ?_⟩; (focus (exfalso; (first | (with_reducible (cases h; done)) | (revert h; simp; done) | (revert h; simp; omega) | (revert h; simp [*]; done)))); clear h))
    refine ⟨by omega, by omega, a, hA, ?_⟩
    refine ⟨_, .inl (fldS (hr 10 _ rfl)), ?_⟩
    cases hfo : x.fo
    case true =>
      repeat (first | (refine ⟨fun h => ?_, fun h => ?_⟩; rotate_left 1; (focus (exfalso; (first | (with_reducible (cases h; done)) | (revert h; simp; done) | (revert h; simp; omega) | (revert h; simp [*]; done)))); clear h) | (refine ⟨fun h => ?_, fun h => ?_⟩; (focus (exfalso; (first | (with_reducible (cases h; done)) | (revert h; simp; done) | (revert h; simp; omega) | (revert h; simp [*]; done)))); clear h))
      exact ⟨_, Ent.refl _, _, rfl, Nw.old A cap l⟩
    repeat (first | (refine ⟨fun h => ?_, fun h => ?_⟩; rotate_left 1; (focus (exfalso; (first | (with_reducible (cases h; done)) | (revert h; simp; done) | (revert h; simp; omega) | (revert h; simp [*]; done)))); clear h) | (refine ⟨fun h => ?_, fun h => ?_⟩; (focus (exfalso; (first | (with_reducible (cases h; done)) | (revert h; simp; done) | (revert h; simp; omega) | (revert h; simp [*]; done)))); clear h))
    refine ⟨by omega, by omega, a, hA, ?_⟩
    refine ⟨_, .inl (fldS (hr 9 _ rfl)), ?_⟩
    cases hhd : x.s.hd
    case true =>
      repeat (first | (refine ⟨fun h => ?_, fun h => ?_⟩; rotate_left 1; (focus (exfalso; (first | (with_reducible (cases h; done)) | (revert h; simp; done) | (revert h; simp; omega) | (revert h; simp [*]; done)))); clear h) | (refine ⟨fun h => ?_, fun h => ?_⟩; (focus (exfalso; (first | (with_reducible (cases h; done)) | (revert h; simp; done) | (revert h; simp; omega) | (revert h; simp [*]; done)))); clear h))
      exact ⟨_, Ent.refl _, _, rfl, Nw.old A cap l⟩
    repeat (first | (refine ⟨fun h => ?_, fun h => ?_⟩; rotate_left 1; (focus (exfalso; (first | (with_reducible (cases h; done)) | (revert h; simp; done) | (revert h; simp; omega) | (revert h; simp [*]; done)))); clear h) | (refine ⟨fun h => ?_, fun h => ?_⟩; (focus (exfalso; (first | (with_reducible (cases h; done)) | (revert h; simp; done) | (revert h; simp; omega) | (revert h; simp [*]; done)))); clear h))
    refine ⟨rfl, fun g0 => ?_⟩
    refine ⟨mks l, mks_length l, hs.srcH, mks_one l, by show (_ + _) * 104 ≤ _; omega, by omega, .inr ⟨0, rfl, rfl, rfl, rfl, rfl, rfl, fun A2 cap2 hg2 => ?_⟩⟩
    obtain ⟨qa, hA2⟩ := growA hg2 (by omega)
    refine ⟨by omega, by omega, _, hA2, ?_⟩
    rw [show Int.toNat (i : Int) = i from rfl, show addA (⟨qa, 0, .none⟩ : Addr) (i * ti242.size) = ⟨qa, i * 11, .none⟩ from (addA_mrk qa i 0).1]
    refine ⟨rfl, rfl, 0, hA2, by rw [(addA_mrk qa i 10).2], by rw [(addA_mrk qa i 10).2]; show i * 11 + 10 + 1 ≤ (mks l).length; rw [mks_length]; omega, ?_⟩
    refine ⟨_, Ent.refl _, _, rfl, ?_⟩
    have hrow : mks (l.set i { x with fo := true }) = setRange (mks l) (addA (⟨qa, i * 11, .none⟩ : Addr) 10).off [.bool true] := by
      rw [(addA_mrk qa i 10).2, ← mks_set (y := x) (y' := { x with fo := true }) (v := .bool true) (k := 10) (by decide) rfl hget]; rfl
    have hnew := Nw.new (A := A) (cap := cap) (cap' := cap2) (l := l) (l' := l.set i { x with fo := true }) (n := 0 + l.length) (by rw [List.length_set]; omega) hg2
    rw [hrow] at hnew
    exact hnew
set_option maxRecDepth 100000 in
set_option maxHeartbeats 4000000 in
theorem refHold_ok (R : Rd) {A : Option Addr} {cap : Nat} {l : List Mk} (hs : MkR R A cap l) (hn : l.length ≤ 1000000) (w q : Int) (b : Bool) :
    Fn Tryd.prog 134 [.slice A l.length cap, .int .i64 w, .int .i64 q, .bool b] [] R (fun v h => ∃ u, v = .tuple ⟨[u, .int .i64 (rHold l w q b).2]⟩ ∧ Nw A cap l (rHold l w q b).1 u h) := by
  have hML := maxLen_eq
  refine fn_of_vc mixed tabOk Tryd.func134 rfl (by kernel_rfl) (Nat.le_of_ble_eq_true rfl) ?_
  refine ⟨[], _, reffind_ok _ (hs.rh _) hn w q, ?_⟩
  rintro _ _ ⟨rfl, rfl⟩
  cases hf : rFind l w q with
  | none =>
    have e : rHold l w q b = (l, 4) := by unfold rHold; rw [hf]
    rw [e]
    have hm : idxV .none < 0 := by decide
    repeat (first | (refine ⟨fun h => ?_, fun h => ?_⟩; rotate_left 1; (focus (exfalso; (first | (with_reducible (cases h; done)) | (revert h; simp; done) | (revert h; simp; omega) | (revert h; simp [*]; done)))); clear h) | (refine ⟨fun h => ?_, fun h => ?_⟩; (focus (exfalso; (first | (with_reducible (cases h; done)) | (revert h; simp; done) | (revert h; simp; omega) | (revert h; simp [*]; done)))); clear h))
    exact ⟨_, Ent.refl _, _, rfl, Nw.old A cap l⟩
  | some i =>
    have hil := rFind_lt hf
    have hget := List.getElem?_eq_getElem hil
    generalize l[i] = x at hget
    have e : rHold l w q b = if x.fo = true then (l, 6) else (l.set i { x with s := { x.s with hd := b } }, 0) := by
      unfold rHold; rw [hf]
      show (match l[i]? with
        | .none => (l, (4 : Int))
        | some m => if m.fo = true then (l, 6) else (l.set i { m with s := { m.s with hd := b } }, 0)) = _
      rw [hget]
    rw [e]
    have hi0 : idxV (some i) = (i : Int) := rfl
    rw [hi0]
    obtain ⟨a, hA, hr⟩ := slr_at (c := Mk.cells) (fun _ => rfl) (by omega) hs hget
    repeat (first | (refine ⟨fun h => ?_, fun h => ?_⟩; rotate_left 1; (focus (exfalso; (first | (with_reducible (cases h; done)) | (revert h; simp; done) | (revert h; simp; omega) | (revert h; simp [*]; done)))); clear h) | (refine ⟨fun h => ?_, fun h => ?_⟩; (focus (exfalso; (first | (with_reducible (cases h; done)) | (revert h; simp; done) | (revert h; simp; omega) | (revert h; simp [*]; done)))); clear h))
    refine ⟨by omega, by omega, a, hA, ?_⟩
    refine ⟨_, .inl (fldS (hr 10 _ rfl)), ?_⟩
    cases hfo : x.fo
    case true =>
      repeat (first | (refine ⟨fun h => ?_, fun h => ?_⟩; rotate_left 1; (focus (exfalso; (first | (with_reducible (cases h; done)) | (revert h; simp; done) | (revert h; simp; omega) | (revert h; simp [*]; done)))); clear h) | (refine ⟨fun h => ?_, fun h => ?_⟩; (focus (exfalso; (first | (with_reducible (cases h; done)) | (revert h; simp; done) | (revert h; simp; omega) | (revert h; simp [*]; done)))); clear h))
      exact ⟨_, Ent.refl _, _, rfl, Nw.old A cap l⟩
    repeat (first | (refine ⟨fun h => ?_, fun h => ?_⟩; rotate_left 1; (focus (exfalso; (first | (with_reducible (cases h; done)) | (revert h; simp; done) | (revert h; simp; omega) | (revert h; simp [*]; done)))); clear h) | (refine ⟨fun h => ?_, fun h => ?_⟩; (focus (exfalso; (first | (with_reducible (cases h; done)) | (revert h; simp; done) | (revert h; simp; omega) | (revert h; simp [*]; done)))); clear h))
    refine ⟨rfl, fun g0 => ?_⟩
    refine ⟨mks l, mks_length l, hs.srcH, mks_one l, by show (_ + _) * 104 ≤ _; omega, by omega, .inr ⟨0, rfl, rfl, rfl, rfl, rfl, rfl, fun A2 cap2 hg2 => ?_⟩⟩
    obtain ⟨qa, hA2⟩ := growA hg2 (by omega)
    refine ⟨by omega, by omega, _, hA2, ?_⟩
    rw [show Int.toNat (i : Int) = i from rfl, show addA (⟨qa, 0, .none⟩ : Addr) (i * ti242.size) = ⟨qa, i * 11, .none⟩ from (addA_mrk qa i 0).1]
    refine ⟨rfl, rfl, 0, hA2, by rw [(addA_mrk qa i 0).2]; rfl, by rw [(addA_mrk qa i 0).2]; show i * 11 + 9 + 1 ≤ (mks l).length; rw [mks_length]; omega, ?_⟩
    refine ⟨_, Ent.refl _, _, rfl, ?_⟩
    have hrow : mks (l.set i ⟨{ x.s with hd := b }, false⟩) = setRange (mks l) (addA (⟨qa, i * 11, .none⟩ : Addr) 9).off [.bool b] := by
      rw [(addA_mrk qa i 9).2, ← mks_set (y := x) (y' := ⟨{ x.s with hd := b }, false⟩) (v := .bool b) (k := 9) (by decide) (by unfold Mk.cells; rw [hfo]; rfl) hget]; rfl
    have hnew := Nw.new (A := A) (cap := cap) (cap' := cap2) (l := l) (l' := l.set i ⟨{ x.s with hd := b }, false⟩) (n := 0 + l.length) (by rw [List.length_set]; omega) hg2
    rw [hrow] at hnew
    exact hnew

/-! ### Next -/
theorem nextL_shown (o : Option Rec) (w d : Int) (nm : Str) (gn sz fl bt : Int) : nextL (o.map Rec.shown) w d nm gn sz fl bt = nextL (o.map Rec.s) w d nm gn sz fl bt := by
  cases o <;> rfl
theorem rNext_flat {C : Lg} (hC : GoodC C) (w d : Int) (nm : Str) (gn sz fl bt : Int) : nextL (rLast ((flatC C).map Mk.s) w) w d nm gn sz fl bt = nextL (lastC (C w)) w d nm gn sz fl bt := by
  rw [rLast_flat hC, nextL_shown]; rfl
theorem flat_valid {C : Lg} (hC : GoodC C) : ∀ s ∈ (flatC C).map Mk.s, Valid s := fun s hs => by
  obtain ⟨m, hm, rfl⟩ := List.mem_map.1 hs
  obtain ⟨_, _, i, x, hx, rfl, _⟩ := mem_flatC hC hm
  exact (hC.rcd _ _ _ hx).2.2.2.hold x.he

set_option maxRecDepth 100000 in
set_option maxHeartbeats 4000000 in
theorem refNext_ok (R : Rd) {A : Option Addr} {cap : Nat} {l : List Mk} (hs : MkR R A cap l) (hn : l.length ≤ 1000000) (hv : ∀ s ∈ l.map Mk.s, Valid s) (w d : Int) (nm : Str) (gn sz fl bt : Int) :
    Fn Tryd.prog 131 [.slice A l.length cap, .int .i64 w, .int .i64 d, .agg ⟨[.string ⟨⟨nm⟩⟩, .int .i64 gn, .int .i64 sz]⟩, .int .i64 fl, .int .i64 bt] [] R
      (fun v h => v = .tuple ⟨[.agg ⟨(nextL (rLast (l.map Mk.s) w) w d nm gn sz fl bt).1.cells⟩, .int .i64 (nextL (rLast (l.map Mk.s) w) w d nm gn sz fl bt).2]⟩ ∧ h = []) := by
  have hml : (l.map Mk.s).length = l.length := List.length_map _
  refine fn_of_vc mixed tabOk Tryd.func131 rfl (by kernel_rfl) (Nat.le_of_ble_eq_true rfl) ?_
  intro g9
  intro g12
  refine ⟨[.string ⟨⟨nm⟩⟩, .int .i64 gn, .int .i64 sz], rdBlk 0 rfl, rfl, ?_⟩
  intro g14
  refine ⟨rfl, rfl, 2, rfl, rfl, Nat.le_of_ble_eq_true rfl, ?_⟩
  refine ⟨[], _, refRecords_ok _ (hs.rh _) hn, ?_⟩
  rintro _ _ ⟨A1, cap1, hg1, rfl, rfl⟩
  refine ⟨[], _, reflast_ok _ (l := l.map Mk.s) (SlR.own 3 rfl (snaps_length _) hg1) (by omega) w, ?_⟩
  rintro _ _ ⟨rfl, rfl⟩
  cases hl : rLast (l.map Mk.s) w with
  | none =>
    intro g15
    refine ⟨rfl, rfl, 4, rfl, rfl, Nat.le_of_ble_eq_true rfl, ?_⟩
    repeat (first | (refine ⟨fun h => ?_, fun h => ?_⟩; rotate_left 1; (focus (exfalso; (first | (with_reducible (cases h; done)) | (revert h; simp; done) | (revert h; simp; omega) | (revert h; simp [*]; done)))); clear h) | (refine ⟨fun h => ?_, fun h => ?_⟩; (focus (exfalso; (first | (with_reducible (cases h; done)) | (revert h; simp; done) | (revert h; simp; omega) | (revert h; simp [*]; done)))); clear h))
    refine ⟨(nextS .none w d nm gn sz fl bt).cells, rdBlk 2 rfl, rfl, ?_⟩
    refine ⟨[], _, refValid_ok _ (nextS .none w d nm gn sz fl bt) (by show _ ≤ (1 : Int); omega) (by show (1 : Int) ≤ _; omega), ?_⟩
    rintro _ _ ⟨rfl, rfl⟩
    cases hv : validB (nextS .none w d nm gn sz fl bt)
    · repeat (first | (refine ⟨fun h => ?_, fun h => ?_⟩; rotate_left 1; (focus (exfalso; (first | (with_reducible (cases h; done)) | (revert h; simp; done) | (revert h; simp; omega) | (revert h; simp [*]; done)))); clear h) | (refine ⟨fun h => ?_, fun h => ?_⟩; (focus (exfalso; (first | (with_reducible (cases h; done)) | (revert h; simp; done) | (revert h; simp; omega) | (revert h; simp [*]; done)))); clear h))
      refine ⟨rfl, rfl, 1, rfl, rfl, Nat.le_of_ble_eq_true rfl, ?_⟩
      refine ⟨Snap.zero.cells, rdBlk 1 rfl, rfl, ?_⟩
      refine ⟨_, Ent.nil _, ?_, rfl⟩
      rw [nextL, hv]; rfl
    · repeat (first | (refine ⟨fun h => ?_, fun h => ?_⟩; rotate_left 1; (focus (exfalso; (first | (with_reducible (cases h; done)) | (revert h; simp; done) | (revert h; simp; omega) | (revert h; simp [*]; done)))); clear h) | (refine ⟨fun h => ?_, fun h => ?_⟩; (focus (exfalso; (first | (with_reducible (cases h; done)) | (revert h; simp; done) | (revert h; simp; omega) | (revert h; simp [*]; done)))); clear h))
      refine ⟨(nextS .none w d nm gn sz fl bt).cells, rdBlk 2 rfl, rfl, ?_⟩
      refine ⟨rfl, rfl, 1, rfl, rfl, Nat.le_of_ble_eq_true rfl, ?_⟩
      refine ⟨(nextS .none w d nm gn sz fl bt).cells, rdBlk 1 rfl, rfl, ?_⟩
      exact ⟨_, Ent.nil _, by rw [nextL, hv]; rfl, rfl⟩
  | some p =>
    have hp := hv p (List.mem_reverse.1 (List.mem_of_find?_eq_some hl))
    have hpq := hp.q
    rw [show (some p).getD Snap.zero = p from rfl]
    intro g15
    refine ⟨rfl, rfl, 4, rfl, rfl, Nat.le_of_ble_eq_true rfl, ?_⟩
    repeat (first | (refine ⟨fun h => ?_, fun h => ?_⟩; rotate_left 1; (focus (exfalso; (first | (with_reducible (cases h; done)) | (revert h; simp; done) | (revert h; simp; omega) | (revert h; simp [*]; done)))); clear h) | (refine ⟨fun h => ?_, fun h => ?_⟩; (focus (exfalso; (first | (with_reducible (cases h; done)) | (revert h; simp; done) | (revert h; simp; omega) | (revert h; simp [*]; done)))); clear h))
    refine ⟨[4], (.q 0 (.q 1 (.q 2 (.q 3 (.q 5 (.one 4 (.one 6 (.q 7 (.fin 8))))))))), by kernel_rfl, ?_⟩
    refine ⟨_, ld 0 rfl rfl, ?_⟩
    (intro z hz; obtain rfl := wr_i64 hz (by omega) (by omega); clear hz)
    refine ⟨p.cells, rdBlk 0 rfl, rfl, ?_⟩
    refine ⟨[], _, refSum26_ok _ p hp, ?_⟩
    rintro _ _ ⟨rfl, rfl⟩
    refine ⟨rfl, rfl, 2, rfl, rfl, Nat.le_of_ble_eq_true rfl, ?_⟩
    refine ⟨rfl, rfl, 3, rfl, rfl, Nat.le_of_ble_eq_true rfl, ?_⟩
    refine ⟨(nextS (some p) w d nm gn sz fl bt).cells, rdBlk 3 rfl, rfl, ?_⟩
    refine ⟨[], _, refValid_ok _ (nextS (some p) w d nm gn sz fl bt) (by show _ ≤ p.q + 1; omega) (by show p.q + 1 ≤ _; omega), ?_⟩
    rintro _ _ ⟨rfl, rfl⟩
    cases hv : validB (nextS (some p) w d nm gn sz fl bt)
    · repeat (first | (refine ⟨fun h => ?_, fun h => ?_⟩; rotate_left 1; (focus (exfalso; (first | (with_reducible (cases h; done)) | (revert h; simp; done) | (revert h; simp; omega) | (revert h; simp [*]; done)))); clear h) | (refine ⟨fun h => ?_, fun h => ?_⟩; (focus (exfalso; (first | (with_reducible (cases h; done)) | (revert h; simp; done) | (revert h; simp; omega) | (revert h; simp [*]; done)))); clear h))
      refine ⟨rfl, rfl, 2, rfl, rfl, Nat.le_of_ble_eq_true rfl, ?_⟩
      refine ⟨Snap.zero.cells, rdBlk 2 rfl, rfl, ?_⟩
      refine ⟨_, Ent.nil _, ?_, rfl⟩
      rw [nextL, hv]; rfl
    repeat (first | (refine ⟨fun h => ?_, fun h => ?_⟩; rotate_left 1; (focus (exfalso; (first | (with_reducible (cases h; done)) | (revert h; simp; done) | (revert h; simp; omega) | (revert h; simp [*]; done)))); clear h) | (refine ⟨fun h => ?_, fun h => ?_⟩; (focus (exfalso; (first | (with_reducible (cases h; done)) | (revert h; simp; done) | (revert h; simp; omega) | (revert h; simp [*]; done)))); clear h))
    refine ⟨_, ld 0 rfl rfl, ?_⟩
    by_cases hd : d < p.d
    · repeat (first | (refine ⟨fun h => ?_, fun h => ?_⟩; rotate_left 1; (focus (exfalso; (first | (with_reducible (cases h; done)) | (revert h; simp; done) | (revert h; simp; omega) | (revert h; simp [*]; done)))); clear h) | (refine ⟨fun h => ?_, fun h => ?_⟩; (focus (exfalso; (first | (with_reducible (cases h; done)) | (revert h; simp; done) | (revert h; simp; omega) | (revert h; simp [*]; done)))); clear h))
      refine ⟨rfl, rfl, 2, rfl, rfl, Nat.le_of_ble_eq_true rfl, ?_⟩
      refine ⟨Snap.zero.cells, rdBlk 2 rfl, rfl, ?_⟩
      refine ⟨_, Ent.nil _, ?_, rfl⟩
      have e : nextL (some p) w d nm gn sz fl bt = (Snap.zero, 13) := by
        rw [nextL, if_pos hv]; exact if_pos hd
      rw [e]; rfl
    · repeat (first | (refine ⟨fun h => ?_, fun h => ?_⟩; rotate_left 1; (focus (exfalso; (first | (with_reducible (cases h; done)) | (revert h; simp; done) | (revert h; simp; omega) | (revert h; simp [*]; done)))); clear h) | (refine ⟨fun h => ?_, fun h => ?_⟩; (focus (exfalso; (first | (with_reducible (cases h; done)) | (revert h; simp; done) | (revert h; simp; omega) | (revert h; simp [*]; done)))); clear h))
      refine ⟨(nextS (some p) w d nm gn sz fl bt).cells, rdBlk 3 rfl, rfl, ?_⟩
      refine ⟨rfl, rfl, 2, rfl, rfl, Nat.le_of_ble_eq_true rfl, ?_⟩
      refine ⟨(nextS (some p) w d nm gn sz fl bt).cells, rdBlk 2 rfl, rfl, ?_⟩
      refine ⟨_, Ent.nil _, ?_, rfl⟩
      have e : nextL (some p) w d nm gn sz fl bt = (nextS (some p) w d nm gn sz fl bt, 0) := by
        rw [nextL, if_pos hv]; exact if_neg hd
      rw [e]; rfl

/-! ### Add -/
def rGap (o : Option Snap) (s : Snap) : Prop := match o with
  | some p => p.q + 1 < s.q
  | .none => 1 < s.q
instance instDecGap (o : Option Snap) (s : Snap) : Decidable (rGap o s) := by
  unfold rGap
  cases o <;> exact inferInstance
def rAdd (l : List Mk) (s : Snap) : List Mk × Int :=
  if validB s = true then
    (match rFind l s.w s.q with
    | some i => (match l[i]? with
      | some m => if m.s.bare = s.bare then (l, 5) else (l, 13)
      | .none => (l, 13))
    | .none =>
      if rGap (rLast (l.map Mk.s) s.w) s then (l, 6)
      else if contB s (rLast (l.map Mk.s) s.w) = true then (if l.length = 4096 then (l, 7) else (rPut l ⟨s, false⟩, 0))
      else (l, 13))
  else (l, 1)

theorem contB_shown (s : Snap) (o : Option Rec) : contB s (o.map Rec.shown) = contB s (o.map Rec.s) := by cases o <;> rfl
theorem rAdd_flat {C : Lg} (hC : GoodC C) (hn : countC C ≤ 4096) (s : Snap) : rAdd (flatC C) s = (flatC (addC C s).1, (addC C s).2) := by
  unfold rAdd addC
  by_cases hv : validB s = true
  case neg => rw [if_neg hv, if_neg hv]
  rw [if_pos hv, if_pos hv]
  have hV := validB_iff.1 hv
  obtain ⟨n, hw⟩ := Int.eq_ofNat_of_zero_le hV.w.1
  have hn12 : n < 12 := by have := hV.w; omega
  have hq := hV.q
  have hfl := rFind_flat hC s.w s.q
  by_cases h1 : s.q ≤ ((C s.w).length : Int)
  · rw [if_pos h1]
    have hil : (s.q - 1).toNat < (C s.w).length := by omega
    have hget := List.getElem?_eq_getElem hil
    generalize (C s.w)[(s.q - 1).toNat] = x at hget
    have hf : findC C s.w s.q = some x := by unfold findC; rw [if_neg (by omega)]; exact hget
    rw [hf] at hfl
    rw [hfl, if_pos (show (some x).isSome = true from rfl), hget]
    have hget' : (C n)[(s.q - 1).toNat]? = some x := by rw [← hget, hw]
    have hwn : s.w.toNat = n := by rw [hw]; rfl
    show (match (flatC C)[(flatN C 0 s.w.toNat).length + (s.q - 1).toNat]? with
      | some m => if m.s.bare = s.bare then (flatC C, (5 : Int)) else (flatC C, 13)
      | .none => (flatC C, 13)) = (flatC (if x.s = s.bare then (C, (5 : Int)) else (C, 13)).1, (if x.s = s.bare then (C, (5 : Int)) else (C, 13)).2)
    rw [hwn, flatC_get hn12 hget']
    have hb : x.mk'.s.bare = x.s := Snap.ext' rfl rfl rfl rfl rfl rfl rfl rfl rfl (hC.rcd _ _ _ hget).2.2.1.symm
    show (if x.mk'.s.bare = s.bare then (flatC C, (5 : Int)) else (flatC C, 13)) = _
    rw [hb]
    by_cases h2 : x.s = s.bare
    · rw [if_pos h2, if_pos h2]
    · rw [if_neg h2, if_neg h2]
  · rw [if_neg h1]
    have hf : findC C s.w s.q = .none := findC_miss (.inr (by omega))
    rw [hf] at hfl
    rw [hfl, if_neg (show ¬ (Option.none : Option Rec).isSome = true by decide)]
    have hlast := rLast_flat hC s.w
    have hP : rGap (rLast ((flatC C).map Mk.s) s.w) s ↔ ((C s.w).length : Int) + 1 < s.q := by
      rw [hlast]
      cases hg : (C s.w).getLast? with
      | none =>
        have : C s.w = [] := List.getLast?_eq_none_iff.1 hg
        show (1 < s.q) ↔ _
        rw [this]; simp
      | some x =>
        rw [List.getLast?_eq_getElem?] at hg
        have h3 := (hC.rcd _ _ _ hg).2.1
        have h4 := (List.getElem?_eq_some_iff.1 hg).1
        show (x.s.q + 1 < s.q) ↔ _
        omega
    show (if rGap (rLast ((flatC C).map Mk.s) s.w) s then (flatC C, (6 : Int)) else _) = _
    by_cases h2 : ((C s.w).length : Int) + 1 < s.q
    · rw [if_pos (hP.2 h2), if_pos h2]
    · rw [if_neg (fun h => h2 (hP.1 h)), if_neg h2, hlast, contB_shown]
      show (if contB s (lastC (C s.w)) = true then _ else _) = _
      by_cases h3 : contB s (lastC (C s.w)) = true
      · rw [if_pos h3, if_pos h3, flatC_length]
        by_cases h4 : countC C = 4096
        · rw [if_pos h4, if_pos (by omega)]
        · rw [if_neg h4, if_neg (by omega)]
          have := rPut_flat hC (x := ⟨s.bare, false, s.hd⟩) hV.w (by show s.q = ((C s.w).length : Int) + 1; omega)
          show (rPut (flatC C) (⟨s.bare, false, s.hd⟩ : Rec).mk', (0 : Int)) = _
          rw [this]; rfl
      · rw [if_neg h3, if_neg h3]

end Go.Proofs.YtoddabjacjkjbaaDoor
