/-
  Transfer: the contract of Resume.
-/
import Derived.Test.YtnifppnpplgghaaGreatDoorTrr
namespace Go.Proofs.YtnifppnpplgghaaGreatDoor
open Go Go.RowKit
set_option linter.unusedVariables false

theorem asc_iff : ∀ {ps : List Pt}, asc ps = true ↔ ∀ (i : Nat) a b, ps[i]? = some a → ps[i + 1]? = some b → a.off < b.off
  | [] => ⟨fun _ i a b h => by simp at h, fun _ => rfl⟩
  | [p] => ⟨fun _ i a b _ h => by simp at h, fun _ => rfl⟩
  | p :: q :: r => by
    have ih := asc_iff (ps := q :: r)
    rw [asc, Bool.and_eq_true, decide_eq_true_iff, ih]
    constructor
    · rintro ⟨h1, h2⟩ i a b ha hb
      cases i with
      | zero => simp at ha hb; subst ha hb; exact h1
      | succ i => exact h2 i a b (by simpa using ha) (by simpa using hb)
    · intro h
      exact ⟨h 0 p q rfl rfl, fun i a b ha hb => h (i + 1) a b (by simpa using ha) (by simpa using hb)⟩
/-- A part and where it lies. -/
structure PA where
  p : Pt
  A : Option Addr
  cap : Nat
  B : Option Addr
  cb : Nat
def PA.dv (x : PA) : Value := .slice x.A x.p.dt.length x.cap
def PA.pv (x : PA) : Value := .slice x.B x.p.path.length x.cb
def PA.cells (x : PA) : List Value := ptC x.p x.dv x.pv
def PA.r1 (x : PA) : RowD := ⟨x.A, x.p.dt.length, x.cap, 5, 1, BV x.p.dt, (0, 0)⟩
def PA.r2 (x : PA) : RowD := ⟨x.B, x.p.path.length, x.cb, 9, 1, SV x.p.path, (0, 0)⟩
def paR (l : List PA) : List RowD := l.flatMap fun x => [x.r1, x.r2]
def paC (l : List PA) : List Value := l.flatMap PA.cells
structure PaOk (x : PA) : Prop where
  g1 : grow x.p.dt.length x.A
  g2 : grow x.p.path.length x.B
  c1 : x.p.dt.length ≤ x.cap
  c2 : x.p.path.length ≤ x.cb
theorem paC_length (l : List PA) : (paC l).length = l.length * 5 := flat_len fun _ _ => rfl
theorem paC_app (a b : List PA) : paC (a ++ b) = paC a ++ paC b := List.flatMap_append
theorem pa_add (l : List PA) (x : PA) : Ent [.rows (paR l), x.r1.ha, x.r2.ha] [.rows (paR (l ++ [x]))] := by
  have e : paR (l ++ [x]) = (paR l ++ [x.r1]) ++ x.r2 :: [] := by unfold paR; rw [List.flatMap_append]; simp
  rw [e]
  refine Ent.trans (b := ([x.r1.ha, .rows (paR l ++ [])] : Hp) ++ ([x.r2.ha] : Hp)) (by rw [List.append_nil]; exact Ent.pick [1, 0, 0] rfl) ?_
  refine Ent.trans (Ent.app (Ent.rows_in (paR l) [] x.r1) (Ent.refl _)) ?_
  refine Ent.trans (b := ([x.r2.ha, .rows ((paR l ++ [x.r1]) ++ [])] : Hp)) (by rw [List.append_nil]; exact Ent.pick [1, 0] rfl) ?_
  exact Ent.rows_in (paR l ++ [x.r1]) [] x.r2
theorem pa_at {R : Rd} {h : Hp} (i : Nat) {q n cap : Nat} {l : List PA} {e : TypeId} (hi : h[i]? = some (.row (some ⟨q, 0, .none⟩) n cap e 5 (paC l) (0, 0))) {j k : Nat} {x : PA} {u : Value} (hx : l[j]? = some x) (hu : x.cells[k]? = some u) : RH R h ⟨q, j * 5 + k, .none⟩ u :=
  ldr i hi (flat_at (c := PA.cells) (sz := 5) (fun _ _ => rfl) hx hu)
theorem pa_rd {R : Rd} {h : Hp} (i : Nat) {q n cap : Nat} {l : List PA} {e : TypeId} (hi : h[i]? = some (.row (some ⟨q, 0, .none⟩) n cap e 5 (paC l) (0, 0))) {j : Nat} {x : PA} (hx : l[j]? = some x) : ∀ k u, x.cells[k]? = some u → RH R h ((addA (⟨q, 0, .none⟩ : Addr) (Int.toNat (j : Int) * 5)).add k) u := fun k u hu => by
  rw [show Int.toNat (j : Int) * 5 = j * 5 by simp, ← addA_eq, add_add, add_zero_addr]
  exact pa_at i hi hx hu
theorem pa_bs {R : Rd} {h : Hp} (i : Nat) {l : List PA} {x : PA} (hi : h[i]? = some (.rows (paR l))) (hx : x ∈ l) (ok : PaOk x) : Bs (RH R h) x.dv x.p.dt ∧ Ss (RH R h) x.pv x.p.path :=
  ⟨⟨_, _, rfl, ok.c1, bs_rows i hi (List.mem_flatMap.2 ⟨x, hx, by simp⟩ : x.r1 ∈ paR l) rfl ok.g1⟩, ⟨_, _, rfl, ok.c2, ss_rows i hi (List.mem_flatMap.2 ⟨x, hx, by simp⟩ : x.r2 ∈ paR l) rfl ok.g2⟩⟩

/-- A receiver out of bytes, or an error. -/
def ResOut (d : Str) (v : Value) (h : Hp) : Prop :=
  (¬ OkR d ∧ v = .tuple ⟨[.pointer .none, .int .i64 3]⟩ ∧ h = []) ∨
  (OkR d ∧ (resL (hR d) (psR d (qC d))).1 ≠ 0 ∧ v = .tuple ⟨[.pointer .none, .int .i64 (resL (hR d) (psR d (qC d))).1]⟩ ∧ h = []) ∨
  (OkR d ∧ (resL (hR d) (psR d (qC d))).1 = 0 ∧ ∃ g, v = .tuple ⟨[.pointer (some ⟨g, 0, .none⟩), .int .i64 0]⟩ ∧ IsRc g (hR d) (resL (hR d) (psR d (qC d))).2 h)
theorem res_root {h : Hd} {ps : List Pt} (hr : ¬ rootOf h.sums = h.st) : resL h ps = (9, []) := if_neg hr
theorem res_err {h : Hd} {ps : List Pt} {e : Int} {s : List Slot} (hr : rootOf h.sums = h.st) (he : recAll h (List.replicate (partsN h.sz.toNat) .none) ps = (e, s)) (h0 : e ≠ 0) : resL h ps = (e, []) := by
  unfold resL
  rw [if_pos hr, he, if_neg h0]
theorem res_asc {h : Hd} {ps : List Pt} {s : List Slot} (hr : rootOf h.sums = h.st) (he : recAll h (List.replicate (partsN h.sz.toNat) .none) ps = (0, s)) : resL h ps = if asc ps = true then (0, s) else (3, []) := by
  unfold resL
  rw [if_pos hr, he, if_pos rfl]
theorem lft_le (d : Str) (s : RS) (hd : d.length ≤ 1000000000) : lft d s ≤ 9223372036854775807 := by unfold lft; omega
theorem cV_le2 {d : Str} {s : RS} (hd : d.length ≤ 1000000000) : cV (lft d s) d s ≤ 1000000000 := by
  have := cV_le (lft d s) d s
  unfold lft at this ⊢; omega
theorem RCt42 (R : Rd) {g : Nat} {d : Str} {s : RS} {h : Hp} (m : Int) (hm : m ≤ 9223372036854775807) (ho : s.1 ≤ d.length) (hd : d.length ≤ 1000000000) (hr : IsRn g d s h) :
    Fn Tryz.prog 81 [.pointer (some ⟨g, 0, .none⟩), .int .i64 m] h R (fun v h' => v = .int .i64 (cV m d s : Nat) ∧ IsRn g d (cN m d s) h') := RCount_ok R g d s.1 s.2.1 s.2.2 h m hm ho hd hr
theorem RLt42 (R : Rd) {g : Nat} {d : Str} {s : RS} {h : Hp} (ho : s.1 ≤ d.length) (hd : d.length ≤ 1000000000) (hr : IsRn g d s h) :
    Fn Tryz.prog 80 [.pointer (some ⟨g, 0, .none⟩)] h R (fun v h' => v = .int .i64 (lft d s) ∧ IsRn g d s h') := RLeft_ok R g d s.1 s.2.1 s.2.2 h ho hd hr

theorem BY0 (R : Rd) {g : Nat} {d : Str} {h : Hp} (hd : d.length ≤ 1000000000) (hr : IsRn g d s00 h) : Fn Tryz.prog 69 [.pointer (some ⟨g, 0, .none⟩), .int .i64 (lft d s00)] h R (fun v h' => ∃ h2 hx, h' = h2 ++ hx ∧ OwnBl v (qB d) hx ∧ IsRn g d (qs1 d) h2) :=
  RBy512 (s := s00) R (lft d s00) (lft_le _ _ hd) (Nat.zero_le _) hd hr
theorem CT1 (R : Rd) {g : Nat} {d : Str} {h : Hp} (ho : (qs1 d).1 ≤ d.length) (hd : d.length ≤ 1000000000) (hr : IsRn g d (qs1 d) h) : Fn Tryz.prog 81 [.pointer (some ⟨g, 0, .none⟩), .int .i64 (lft d (qs1 d))] h R (fun v h' => v = .int .i64 (qC d : Nat) ∧ IsRn g d (qs2 d) h') :=
  RCt42 (s := qs1 d) R (lft d (qs1 d)) (lft_le _ _ hd) ho hd hr
theorem BYi (R : Rd) {g : Nat} {d : Str} {h : Hp} {s : RS} (i : Nat) (ho : s.1 ≤ d.length) (hd : d.length ≤ 1000000000) (hr : IsRn g d (qN d s i) h) : Fn Tryz.prog 69 [.pointer (some ⟨g, 0, .none⟩), .int .i64 (lft d (qN d s i))] h R (fun v h' => ∃ h2 hx, h' = h2 ++ hx ∧ OwnBl v (qV d s i) hx ∧ IsRn g d (qN d s (i + 1)) h2) :=
  RBy512 (s := qN d s i) R (lft d (qN d s i)) (lft_le _ _ hd) (qN_le ho i) hd hr
theorem qB_le {d : Str} (hd : d.length ≤ 1000000000) : (qB d).length ≤ 1000000000 := by have := yV_le (lft d s00) d s00; unfold qB; omega
theorem qV_le {d : Str} {s : RS} {k : Nat} (hd : d.length ≤ 1000000000) : (qV d s k).length ≤ 1000000000 := by have := yV_le (lft d (qN d s k)) d (qN d s k); unfold qV; omega
theorem qC_le {d : Str} (hd : d.length ≤ 1000000000) : qC d ≤ 1000000000 := cV_le2 hd
theorem qs1_le {d : Str} : (qs1 d).1 ≤ d.length := yN_le (Nat.zero_le _)
theorem qs2_le {d : Str} : (qs2 d).1 ≤ d.length := cN_le qs1_le
theorem qN_zero (d : Str) (s : RS) : qN d s 0 = s := rfl
theorem IsRn0 {d : Str} {gr : Nat} {h : Hp} (e : IsRn gr d s00 h) : IsRn gr d s00 h := e

end Go.Proofs.YtnifppnpplgghaaGreatDoor
