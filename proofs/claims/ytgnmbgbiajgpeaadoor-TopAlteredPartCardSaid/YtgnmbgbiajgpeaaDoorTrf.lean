/-
  Transfer: contracts of the receiver.
-/
import Derived.Test.YtgnmbgbiajgpeaaDoorTre
namespace Go.Proofs.YtgnmbgbiajgpeaaDoor
open Go Go.RowKit
set_option linter.unusedVariables false

/-- What is there of a part: where, and what; nothing at all is there of a missing one. -/
structure Sl where
  A : Option Addr
  cap : Nat
  d : Str
  B : Option Addr
  cb : Nat
  p : List Str
def Sl.non : Sl := ⟨.none, 0, [], .none, 0, []⟩
def Sl.dv (s : Sl) : Value := .slice s.A s.d.length s.cap
def Sl.pv (s : Sl) : Value := .slice s.B s.p.length s.cb
def Sl.r1 (s : Sl) : RowD := ⟨s.A, s.d.length, s.cap, 5, 1, BV s.d, (0, 0)⟩
def Sl.r2 (s : Sl) : RowD := ⟨s.B, s.p.length, s.cb, 9, 1, SV s.p, (0, 0)⟩
def rowsS (l : List Sl) : List RowD := l.flatMap fun s => [s.r1, s.r2]
abbrev Slot := Option (Str × List Str)
def Sl.pl (s : Sl) : Slot := match s.A with
  | .none => .none
  | some _ => some (s.d, s.p)
structure SlOk (s : Sl) : Prop where
  g1 : grow s.d.length s.A
  g2 : grow s.p.length s.B
  c1 : s.d.length ≤ s.cap
  c2 : s.p.length ≤ s.cb
  no : s.A = .none → s = Sl.non
theorem SlOk.non : SlOk Sl.non := ⟨.inl rfl, .inl rfl, Nat.le_refl _, Nat.le_refl _, fun _ => rfl⟩
theorem rows_null {h : Hp} {l : List RowD} (hl : ∀ r ∈ l, r.A = .none ∧ r.n = 0 ∧ r.cap = 0 ∧ r.xs = []) : Ent h (h ++ [.rows l]) := fun w o => by
  have hid : l.flatMap RowD.ids = [] := List.flatMap_eq_nil_iff.2 fun r hr => by rw [RowD.ids, (hl r hr).1]; rfl
  refine ⟨⟨fun x hx => ?_, ?_⟩, fun g hg => ?_⟩
  · rcases List.mem_append.1 hx with hx | hx
    · exact o.all x hx
    · rw [List.mem_singleton.1 hx]
      intro r hr
      obtain ⟨h1, h2, h3, h4⟩ := hl r hr
      show rowHolds w r.A r.n r.cap r.e r.sz r.xs r.fz
      rw [h1, h2, h3, h4]
      exact ⟨by simp, Nat.le_refl _, by simp, (fun _ h => by cases h), rfl⟩
  · rw [idsOf_append]
    have : idsOf [.rows l] = [] := by simp [idsOf, HA.ids, hid]
    rw [this, List.append_nil]; exact o.nd
  · rw [idsOf_append] at hg
    have : idsOf [.rows l] = [] := by simp [idsOf, HA.ids, hid]
    rw [this, List.append_nil] at hg; exact hg

/-- The cells of a receiver. -/
def rcC (h : Hd) (C : Option Addr) (cc gd gp n : Nat) : List Value := hdC h (.slice C h.sums.length cc) ++ [.slice (some ⟨gd, 0, .none⟩) n n, .slice (some ⟨gp, 0, .none⟩) n n]
def rcH (g : Nat) (h : Hd) (C : Option Addr) (cc gd gp : Nat) (sl : List Sl) : Hp :=
  [.blk g 105 (rcC h C cc gd gp sl.length), .row C h.sums.length cc 9 1 (SV h.sums) (0, 0),
   .row (some ⟨gd, 0, .none⟩) sl.length sl.length 25 1 (sl.map Sl.dv) (0, 0), .row (some ⟨gp, 0, .none⟩) sl.length sl.length 26 1 (sl.map Sl.pv) (0, 0), .rows (rowsS sl)]
def IsRc (g : Nat) (h : Hd) (sls : List Slot) (hp : Hp) : Prop := ∃ C cc gd gp sl, grow h.sums.length C ∧ h.sums.length ≤ cc ∧ (∀ s ∈ sl, SlOk s) ∧ sl.map Sl.pl = sls ∧ hp = rcH g h C cc gd gp sl
/-- A receiver that may be read. -/
def RcR (R : Rd) (g : Nat) (h : Hd) (sl : List Sl) : Prop := ∃ C cc gd gp, CellsAt R g (rcC h C cc gd gp sl.length) ∧ Ss R (.slice C h.sums.length cc) h.sums ∧ CellsAt R gd (sl.map Sl.dv) ∧ CellsAt R gp (sl.map Sl.pv) ∧
  ∀ s ∈ sl, Bs R s.dv s.d ∧ Ss R s.pv s.p ∧ (s.A = .none → s = Sl.non)
theorem CellsAt.row {R : Rd} {h : Hp} (i : Nat) {g : Nat} {n cap : Nat} {e : TypeId} {xs : List Value} {fz : Nat × Nat} (hi : h[i]? = some (.row (some ⟨g, 0, .none⟩) n cap e 1 xs fz)) : CellsAt (RH R h) g xs := fun j u hu => ldr i hi hu
theorem bs_rows {R : Rd} {h : Hp} (i : Nat) {l : List RowD} {r : RowD} {x : Str} (hi : h[i]? = some (.rows l)) (hr : r ∈ l) (e1 : r.xs = BV x) (hg : grow x.length r.A) : BsR (RH R h) (.slice r.A x.length r.cap) x := by
  refine ⟨by rw [BV_length, Nat.mul_one], _, _, rfl, fun j u hu => ?_⟩
  have hj : j < x.length := by have := (List.getElem?_eq_some_iff.1 hu).1; rwa [BV_length] at this
  obtain ⟨g, hA⟩ := growA hg (by omega)
  refine ⟨_, hA, ldrows i hi hr ?_⟩
  rw [add_zero_addr]
  show rowCell r.A r.xs ⟨g, j, .none⟩ u
  rw [hA, e1]
  exact ⟨rfl, rfl, hu⟩
theorem ss_rows {R : Rd} {h : Hp} (i : Nat) {l : List RowD} {r : RowD} {x : List Str} (hi : h[i]? = some (.rows l)) (hr : r ∈ l) (e1 : r.xs = SV x) (hg : grow x.length r.A) : SsR (RH R h) (.slice r.A x.length r.cap) x := by
  refine ⟨by rw [SV_length, Nat.mul_one], _, _, rfl, fun j u hu => ?_⟩
  have hj : j < x.length := by have := (List.getElem?_eq_some_iff.1 hu).1; rwa [SV_length] at this
  obtain ⟨g, hA⟩ := growA hg (by omega)
  refine ⟨_, hA, ldrows i hi hr ?_⟩
  rw [add_zero_addr]
  show rowCell r.A r.xs ⟨g, j, .none⟩ u
  rw [hA, e1]
  exact ⟨rfl, rfl, hu⟩
theorem mem_rows1 {l : List Sl} {s : Sl} (h : s ∈ l) : s.r1 ∈ rowsS l := List.mem_flatMap.2 ⟨s, h, by simp⟩
theorem mem_rows2 {l : List Sl} {s : Sl} (h : s ∈ l) : s.r2 ∈ rowsS l := List.mem_flatMap.2 ⟨s, h, by simp⟩
theorem rc_own {R : Rd} {hp : Hp} (i0 i1 i2 i3 i4 : Nat) {g : Nat} {h : Hd} {C : Option Addr} {cc gd gp : Nat} {sl : List Sl} (hg : grow h.sums.length C) (hc : h.sums.length ≤ cc) (ok : ∀ s ∈ sl, SlOk s)
    (e0 : hp[i0]? = some (.blk g 105 (rcC h C cc gd gp sl.length))) (e1 : hp[i1]? = some (.row C h.sums.length cc 9 1 (SV h.sums) (0, 0)))
    (e2 : hp[i2]? = some (.row (some ⟨gd, 0, .none⟩) sl.length sl.length 25 1 (sl.map Sl.dv) (0, 0))) (e3 : hp[i3]? = some (.row (some ⟨gp, 0, .none⟩) sl.length sl.length 26 1 (sl.map Sl.pv) (0, 0)))
    (e4 : hp[i4]? = some (.rows (rowsS sl))) : RcR (RH R hp) g h sl :=
  ⟨C, cc, gd, gp, CellsAt.own i0 e0, ss_own i1 e1 hg hc, CellsAt.row i2 e2, CellsAt.row i3 e3, fun s hs =>
    ⟨⟨_, _, rfl, (ok s hs).c1, bs_rows i4 e4 (mem_rows1 hs) rfl (ok s hs).g1⟩, ⟨_, _, rfl, (ok s hs).c2, ss_rows i4 e4 (mem_rows2 hs) rfl (ok s hs).g2⟩, (ok s hs).no⟩⟩
theorem RcR.rh {R : Rd} {g : Nat} {h : Hd} {sl : List Sl} (r : RcR R g h sl) (hp : Hp) : RcR (RH R hp) g h sl := by
  obtain ⟨C, cc, gd, gp, h1, h2, h3, h4, h5⟩ := r
  exact ⟨C, cc, gd, gp, h1.rh _, h2.rh _, h3.rh _, h4.rh _, fun s hs => ⟨(h5 s hs).1.rh _, (h5 s hs).2.1.rh _, (h5 s hs).2.2⟩⟩
theorem repl_one (v : Value) (n : Nat) : repl [v] n = List.replicate n v := by
  induction n with
  | zero => rfl
  | succ n ih => show [v] ++ repl [v] n = _; rw [ih]; rfl
theorem rows_non (n : Nat) : ∀ r ∈ rowsS (List.replicate n Sl.non), r.A = .none ∧ r.n = 0 ∧ r.cap = 0 ∧ r.xs = [] := fun r hr => by
  obtain ⟨s, hs, hr⟩ := List.mem_flatMap.1 hr
  obtain rfl := (List.mem_replicate.1 hs).2
  simp only [List.mem_cons, List.not_mem_nil, or_false] at hr
  rcases hr with rfl | rfl <;> exact ⟨rfl, rfl, rfl, rfl⟩

set_option maxRecDepth 100000 in
set_option maxHeartbeats 8000000 in
theorem NewReceiver_ok (R : Rd) (hG : ShaG R) (h : Hd) (B : Value) (hs : Ss R B h.sums) :
    Fn Tryd.prog 21 [.agg ⟨hdC h B⟩] [] R (fun v hp => (¬ WfH h ∧ v = .tuple ⟨[.pointer .none, .int .i64 1]⟩ ∧ hp = []) ∨ (WfH h ∧ rootOf h.sums ≠ h.st ∧ v = .tuple ⟨[.pointer .none, .int .i64 9]⟩ ∧ hp = []) ∨
      (WfH h ∧ rootOf h.sums = h.st ∧ ∃ g, v = .tuple ⟨[.pointer (some ⟨g, 0, .none⟩), .int .i64 0]⟩ ∧ IsRc g h (List.replicate (partsN h.sz.toNat) .none) hp)) := by
  have hML := maxLen_eq
  refine fn_of_vc mixed tabOk Tryd.func21 rfl (by kernel_rfl) (Nat.le_of_ble_eq_true rfl) ?_
  intro gb
  refine ⟨[], _, wfH_ok _ gb h B (CellsAt.own 0 rfl) (hs.rh _), ?_⟩
  rintro _ _ ⟨rfl, rfl⟩
  by_cases w : WfH h
  case neg =>
    rw [decide_eq_false w]
    repeat (first | (refine ⟨fun h => ?_, fun h => ?_⟩; rotate_left 1; (focus (exfalso; (first | (with_reducible (cases h; done)) | (revert h; simp; done) | (revert h; simp; omega) | (revert h; simp [*]; done)))); clear h) | (refine ⟨fun h => ?_, fun h => ?_⟩; (focus (exfalso; (first | (with_reducible (cases h; done)) | (revert h; simp; done) | (revert h; simp; omega) | (revert h; simp [*]; done)))); clear h))
    exact ⟨_, Ent.nil _, .inl ⟨w, rfl, rfl⟩⟩
  rw [decide_eq_true w]
  repeat (first | (refine ⟨fun h => ?_, fun h => ?_⟩; rotate_left 1; (focus (exfalso; (first | (with_reducible (cases h; done)) | (revert h; simp; done) | (revert h; simp; omega) | (revert h; simp [*]; done)))); clear h) | (refine ⟨fun h => ?_, fun h => ?_⟩; (focus (exfalso; (first | (with_reducible (cases h; done)) | (revert h; simp; done) | (revert h; simp; omega) | (revert h; simp [*]; done)))); clear h))
  have wf := w
  obtain ⟨a1, a2, a3, a4, a5, a6, a7, a8⟩ := w
  refine ⟨[0], (.q 0 (.q 1 (.q 3 (.q 4 (.q 5 (.one 2 (.q 6 .nil))))))), by kernel_rfl, ?_⟩
  refine ⟨_, ld 0 rfl rfl, ?_⟩
  refine ⟨_, ld 0 rfl rfl, ?_⟩
  refine ⟨[], _, Root_ok _ ((hG.rh _).rh _) _ h.sums _ rfl (wf_small a2 a3) ((hs.rh _).rh _), ?_⟩
  rintro _ _ ⟨rfl, rfl⟩
  by_cases hr : rootOf h.sums = h.st
  case neg =>
    generalize rootOf h.sums = rs at *
    repeat (first | (refine ⟨fun h => ?_, fun h => ?_⟩; rotate_left 1; (focus (exfalso; (first | (with_reducible (cases h; done)) | (revert h; simp; done) | (revert h; simp; omega) | (revert h; simp [*]; done)))); clear h) | (refine ⟨fun h => ?_, fun h => ?_⟩; (focus (exfalso; (first | (with_reducible (cases h; done)) | (revert h; simp; done) | (revert h; simp; omega) | (revert h; simp [*]; done)))); clear h))
    exact ⟨_, Ent.nil _, .inr (.inl ⟨wf, hr, rfl, rfl⟩)⟩
  rw [hr]
  repeat (first | (refine ⟨fun h => ?_, fun h => ?_⟩; rotate_left 1; (focus (exfalso; (first | (with_reducible (cases h; done)) | (revert h; simp; done) | (revert h; simp; omega) | (revert h; simp [*]; done)))); clear h) | (refine ⟨fun h => ?_, fun h => ?_⟩; (focus (exfalso; (first | (with_reducible (cases h; done)) | (revert h; simp; done) | (revert h; simp; omega) | (revert h; simp [*]; done)))); clear h))
  refine ⟨_, ld 0 rfl rfl, ?_⟩
  have esz : h.sz = ((h.sz.toNat : Nat) : Int) := by omega
  rw [esz]
  refine ⟨[], _, partsOf_ok _ h.sz.toNat (by omega), ?_⟩
  rintro _ _ ⟨rfl, rfl⟩
  have hpn : 1 ≤ partsN h.sz.toNat ∧ partsN h.sz.toNat ≤ 1000 := by unfold partsN; omega
  generalize hnn : partsN h.sz.toNat = n at *
  rw [← esz]
  have hsz : (n : Int).toNat = n := Int.toNat_natCast n
  refine ⟨[0], .cut (.q 1 (.q 3 (.four 0 (.three 2 (.two 4 (.q 5 (.one 6 (.one 7 .nil))) 6 (.one 4 (.q 5 (.one 7 .nil)))) 4 (.two 2 (.q 5 (.one 6 (.one 7 .nil))) 6 (.one 2 (.q 5 (.one 7 .nil)))) 6 (.two 2 (.one 4 (.q 5 (.one 7 .nil))) 4 (.one 2 (.q 5 (.one 7 .nil))))) 2 (.three 0 (.two 4 (.q 5 (.one 6 (.one 7 .nil))) 6 (.one 4 (.q 5 (.one 7 .nil)))) 4 (.two 0 (.q 5 (.one 6 (.one 7 .nil))) 6 (.one 0 (.q 5 (.one 7 .nil)))) 6 (.two 0 (.one 4 (.q 5 (.one 7 .nil))) 4 (.one 0 (.q 5 (.one 7 .nil))))) 4 (.three 0 (.two 2 (.q 5 (.one 6 (.one 7 .nil))) 6 (.one 2 (.q 5 (.one 7 .nil)))) 2 (.two 0 (.q 5 (.one 6 (.one 7 .nil))) 6 (.one 0 (.q 5 (.one 7 .nil)))) 6 (.two 0 (.one 2 (.q 5 (.one 7 .nil))) 2 (.one 0 (.q 5 (.one 7 .nil))))) 6 (.three 0 (.two 2 (.one 4 (.q 5 (.one 7 .nil))) 4 (.one 2 (.q 5 (.one 7 .nil)))) 2 (.two 0 (.one 4 (.q 5 (.one 7 .nil))) 4 (.one 0 (.q 5 (.one 7 .nil)))) 4 (.two 0 (.one 2 (.q 5 (.one 7 .nil))) 2 (.one 0 (.q 5 (.one 7 .nil)))))))), by kernel_rfl, [none, none, none, none, none, some 5, none, none, none, none, none, none, none, none, none, none, none, none, some 18, some 19, some 20, some 21, some 22, some 23], ?_⟩
  refine ⟨[5], Nat × Option Addr × Nat × Nat × Nat, fun ⟨g5, C, cc, gd, gp⟩ => grow h.sums.length C ∧ h.sums.length ≤ cc, fun ⟨g5, _⟩ => [.pointer (some ⟨g5, 0, .none⟩)],
    fun ⟨g5, C, cc, gd, gp⟩ => [.blk g5 103 (rcC h C cc gd gp n), .row C h.sums.length cc 9 1 (SV h.sums) (0, 0),
      .row (some ⟨gd, 0, .none⟩) n n 25 1 (repl [.slice .none 0 0] n) (0, 0), .row (some ⟨gp, 0, .none⟩) n n 26 1 (repl [.slice .none 0 0] n) (0, 0)], ?_, ?_⟩
--CASES
  · refine ⟨?_, ?_, ?_, ?_⟩
    · refine ⟨[], _, clone_ok _ gb h B (by omega) ((CellsAt.own 0 rfl).rh _) ((hs.rh _).rh _), ?_⟩
      rintro _ _ ⟨C, cc, rfl, rfl, hg, hcc⟩
      refine ⟨?_, ?_, ?_⟩
      · refine ⟨by omega, by omega, by show (24 : Int) * n ≤ _; omega, by omega, fun gd => ?_⟩
        refine ⟨?_, ?_⟩
        · refine ⟨by omega, by omega, by show (24 : Int) * n ≤ _; omega, by omega, fun gp => ?_⟩
          intro g5
          refine ⟨rfl, rfl, 3, rfl, rfl, Nat.le_of_ble_eq_true rfl, ?_⟩
          exact ⟨rfl, (g5, C, cc, gd, gp), ⟨hg, hcc⟩, ⟨rfl, trivial⟩, Ent.pick [3, 0, 0, 0] rfl, rfl⟩
        · intro g5
          refine ⟨by omega, by omega, by show (24 : Int) * n ≤ _; omega, by omega, fun gp => ?_⟩
          refine ⟨rfl, rfl, 2, rfl, rfl, Nat.le_of_ble_eq_true rfl, ?_⟩
          exact ⟨rfl, (g5, C, cc, gd, gp), ⟨hg, hcc⟩, ⟨rfl, trivial⟩, Ent.pick [2, 0, 0, 0] rfl, rfl⟩
      · refine ⟨by omega, by omega, by show (24 : Int) * n ≤ _; omega, by omega, fun gp => ?_⟩
        refine ⟨?_, ?_⟩
        · refine ⟨by omega, by omega, by show (24 : Int) * n ≤ _; omega, by omega, fun gd => ?_⟩
          intro g5
          refine ⟨rfl, rfl, 3, rfl, rfl, Nat.le_of_ble_eq_true rfl, ?_⟩
          exact ⟨rfl, (g5, C, cc, gd, gp), ⟨hg, hcc⟩, ⟨rfl, trivial⟩, Ent.pick [3, 0, 1, 0] rfl, rfl⟩
        · intro g5
          refine ⟨by omega, by omega, by show (24 : Int) * n ≤ _; omega, by omega, fun gd => ?_⟩
          refine ⟨rfl, rfl, 2, rfl, rfl, Nat.le_of_ble_eq_true rfl, ?_⟩
          exact ⟨rfl, (g5, C, cc, gd, gp), ⟨hg, hcc⟩, ⟨rfl, trivial⟩, Ent.pick [2, 0, 1, 0] rfl, rfl⟩
      · intro g5
        refine ⟨?_, ?_⟩
        · refine ⟨by omega, by omega, by show (24 : Int) * n ≤ _; omega, by omega, fun gd => ?_⟩
          refine ⟨by omega, by omega, by show (24 : Int) * n ≤ _; omega, by omega, fun gp => ?_⟩
          refine ⟨rfl, rfl, 1, rfl, rfl, Nat.le_of_ble_eq_true rfl, ?_⟩
          exact ⟨rfl, (g5, C, cc, gd, gp), ⟨hg, hcc⟩, ⟨rfl, trivial⟩, Ent.pick [1, 0, 0, 0] rfl, rfl⟩
        · refine ⟨by omega, by omega, by show (24 : Int) * n ≤ _; omega, by omega, fun gp => ?_⟩
          refine ⟨by omega, by omega, by show (24 : Int) * n ≤ _; omega, by omega, fun gd => ?_⟩
          refine ⟨rfl, rfl, 1, rfl, rfl, Nat.le_of_ble_eq_true rfl, ?_⟩
          exact ⟨rfl, (g5, C, cc, gd, gp), ⟨hg, hcc⟩, ⟨rfl, trivial⟩, Ent.pick [1, 0, 1, 0] rfl, rfl⟩
    · refine ⟨by omega, by omega, by show (24 : Int) * n ≤ _; omega, by omega, fun gd => ?_⟩
      refine ⟨?_, ?_, ?_⟩
      · refine ⟨[], _, clone_ok _ gb h B (by omega) ((CellsAt.own 0 rfl).rh _) ((hs.rh _).rh _), ?_⟩
        rintro _ _ ⟨C, cc, rfl, rfl, hg, hcc⟩
        refine ⟨?_, ?_⟩
        · refine ⟨by omega, by omega, by show (24 : Int) * n ≤ _; omega, by omega, fun gp => ?_⟩
          intro g5
          refine ⟨rfl, rfl, 3, rfl, rfl, Nat.le_of_ble_eq_true rfl, ?_⟩
          exact ⟨rfl, (g5, C, cc, gd, gp), ⟨hg, hcc⟩, ⟨rfl, trivial⟩, Ent.pick [3, 1, 0, 0] rfl, rfl⟩
        · intro g5
          refine ⟨by omega, by omega, by show (24 : Int) * n ≤ _; omega, by omega, fun gp => ?_⟩
          refine ⟨rfl, rfl, 2, rfl, rfl, Nat.le_of_ble_eq_true rfl, ?_⟩
          exact ⟨rfl, (g5, C, cc, gd, gp), ⟨hg, hcc⟩, ⟨rfl, trivial⟩, Ent.pick [2, 1, 0, 0] rfl, rfl⟩
      · refine ⟨by omega, by omega, by show (24 : Int) * n ≤ _; omega, by omega, fun gp => ?_⟩
        refine ⟨?_, ?_⟩
        · refine ⟨[], _, clone_ok _ gb h B (by omega) ((CellsAt.own 0 rfl).rh _) ((hs.rh _).rh _), ?_⟩
          rintro _ _ ⟨C, cc, rfl, rfl, hg, hcc⟩
          intro g5
          refine ⟨rfl, rfl, 3, rfl, rfl, Nat.le_of_ble_eq_true rfl, ?_⟩
          exact ⟨rfl, (g5, C, cc, gd, gp), ⟨hg, hcc⟩, ⟨rfl, trivial⟩, Ent.pick [3, 2, 0, 0] rfl, rfl⟩
        · intro g5
          refine ⟨[], _, clone_ok _ gb h B (by omega) ((CellsAt.own 0 rfl).rh _) ((hs.rh _).rh _), ?_⟩
          rintro _ _ ⟨C, cc, rfl, rfl, hg, hcc⟩
          refine ⟨rfl, rfl, 2, rfl, rfl, Nat.le_of_ble_eq_true rfl, ?_⟩
          exact ⟨rfl, (g5, C, cc, gd, gp), ⟨hg, hcc⟩, ⟨rfl, trivial⟩, Ent.pick [2, 2, 0, 0] rfl, rfl⟩
      · intro g5
        refine ⟨?_, ?_⟩
        · refine ⟨[], _, clone_ok _ gb h B (by omega) ((CellsAt.own 0 rfl).rh _) ((hs.rh _).rh _), ?_⟩
          rintro _ _ ⟨C, cc, rfl, rfl, hg, hcc⟩
          refine ⟨by omega, by omega, by show (24 : Int) * n ≤ _; omega, by omega, fun gp => ?_⟩
          refine ⟨rfl, rfl, 1, rfl, rfl, Nat.le_of_ble_eq_true rfl, ?_⟩
          exact ⟨rfl, (g5, C, cc, gd, gp), ⟨hg, hcc⟩, ⟨rfl, trivial⟩, Ent.pick [1, 1, 0, 0] rfl, rfl⟩
        · refine ⟨by omega, by omega, by show (24 : Int) * n ≤ _; omega, by omega, fun gp => ?_⟩
          refine ⟨[], _, clone_ok _ gb h B (by omega) ((CellsAt.own 0 rfl).rh _) ((hs.rh _).rh _), ?_⟩
          rintro _ _ ⟨C, cc, rfl, rfl, hg, hcc⟩
          refine ⟨rfl, rfl, 1, rfl, rfl, Nat.le_of_ble_eq_true rfl, ?_⟩
          exact ⟨rfl, (g5, C, cc, gd, gp), ⟨hg, hcc⟩, ⟨rfl, trivial⟩, Ent.pick [1, 2, 0, 0] rfl, rfl⟩
    · refine ⟨by omega, by omega, by show (24 : Int) * n ≤ _; omega, by omega, fun gp => ?_⟩
      refine ⟨?_, ?_, ?_⟩
      · refine ⟨[], _, clone_ok _ gb h B (by omega) ((CellsAt.own 0 rfl).rh _) ((hs.rh _).rh _), ?_⟩
        rintro _ _ ⟨C, cc, rfl, rfl, hg, hcc⟩
        refine ⟨?_, ?_⟩
        · refine ⟨by omega, by omega, by show (24 : Int) * n ≤ _; omega, by omega, fun gd => ?_⟩
          intro g5
          refine ⟨rfl, rfl, 3, rfl, rfl, Nat.le_of_ble_eq_true rfl, ?_⟩
          exact ⟨rfl, (g5, C, cc, gd, gp), ⟨hg, hcc⟩, ⟨rfl, trivial⟩, Ent.pick [3, 1, 1, 0] rfl, rfl⟩
        · intro g5
          refine ⟨by omega, by omega, by show (24 : Int) * n ≤ _; omega, by omega, fun gd => ?_⟩
          refine ⟨rfl, rfl, 2, rfl, rfl, Nat.le_of_ble_eq_true rfl, ?_⟩
          exact ⟨rfl, (g5, C, cc, gd, gp), ⟨hg, hcc⟩, ⟨rfl, trivial⟩, Ent.pick [2, 1, 1, 0] rfl, rfl⟩
      · refine ⟨by omega, by omega, by show (24 : Int) * n ≤ _; omega, by omega, fun gd => ?_⟩
        refine ⟨?_, ?_⟩
        · refine ⟨[], _, clone_ok _ gb h B (by omega) ((CellsAt.own 0 rfl).rh _) ((hs.rh _).rh _), ?_⟩
          rintro _ _ ⟨C, cc, rfl, rfl, hg, hcc⟩
          intro g5
          refine ⟨rfl, rfl, 3, rfl, rfl, Nat.le_of_ble_eq_true rfl, ?_⟩
          exact ⟨rfl, (g5, C, cc, gd, gp), ⟨hg, hcc⟩, ⟨rfl, trivial⟩, Ent.pick [3, 2, 1, 0] rfl, rfl⟩
        · intro g5
          refine ⟨[], _, clone_ok _ gb h B (by omega) ((CellsAt.own 0 rfl).rh _) ((hs.rh _).rh _), ?_⟩
          rintro _ _ ⟨C, cc, rfl, rfl, hg, hcc⟩
          refine ⟨rfl, rfl, 2, rfl, rfl, Nat.le_of_ble_eq_true rfl, ?_⟩
          exact ⟨rfl, (g5, C, cc, gd, gp), ⟨hg, hcc⟩, ⟨rfl, trivial⟩, Ent.pick [2, 2, 1, 0] rfl, rfl⟩
      · intro g5
        refine ⟨?_, ?_⟩
        · refine ⟨[], _, clone_ok _ gb h B (by omega) ((CellsAt.own 0 rfl).rh _) ((hs.rh _).rh _), ?_⟩
          rintro _ _ ⟨C, cc, rfl, rfl, hg, hcc⟩
          refine ⟨by omega, by omega, by show (24 : Int) * n ≤ _; omega, by omega, fun gd => ?_⟩
          refine ⟨rfl, rfl, 1, rfl, rfl, Nat.le_of_ble_eq_true rfl, ?_⟩
          exact ⟨rfl, (g5, C, cc, gd, gp), ⟨hg, hcc⟩, ⟨rfl, trivial⟩, Ent.pick [1, 1, 1, 0] rfl, rfl⟩
        · refine ⟨by omega, by omega, by show (24 : Int) * n ≤ _; omega, by omega, fun gd => ?_⟩
          refine ⟨[], _, clone_ok _ gb h B (by omega) ((CellsAt.own 0 rfl).rh _) ((hs.rh _).rh _), ?_⟩
          rintro _ _ ⟨C, cc, rfl, rfl, hg, hcc⟩
          refine ⟨rfl, rfl, 1, rfl, rfl, Nat.le_of_ble_eq_true rfl, ?_⟩
          exact ⟨rfl, (g5, C, cc, gd, gp), ⟨hg, hcc⟩, ⟨rfl, trivial⟩, Ent.pick [1, 2, 1, 0] rfl, rfl⟩
    · intro g5
      refine ⟨?_, ?_, ?_⟩
      · refine ⟨[], _, clone_ok _ gb h B (by omega) ((CellsAt.own 0 rfl).rh _) ((hs.rh _).rh _), ?_⟩
        rintro _ _ ⟨C, cc, rfl, rfl, hg, hcc⟩
        refine ⟨?_, ?_⟩
        · refine ⟨by omega, by omega, by show (24 : Int) * n ≤ _; omega, by omega, fun gd => ?_⟩
          refine ⟨by omega, by omega, by show (24 : Int) * n ≤ _; omega, by omega, fun gp => ?_⟩
          refine ⟨rfl, rfl, 0, rfl, rfl, Nat.le_of_ble_eq_true rfl, ?_⟩
          exact ⟨rfl, (g5, C, cc, gd, gp), ⟨hg, hcc⟩, ⟨rfl, trivial⟩, Ent.pick [0, 0, 0, 0] rfl, rfl⟩
        · refine ⟨by omega, by omega, by show (24 : Int) * n ≤ _; omega, by omega, fun gp => ?_⟩
          refine ⟨by omega, by omega, by show (24 : Int) * n ≤ _; omega, by omega, fun gd => ?_⟩
          refine ⟨rfl, rfl, 0, rfl, rfl, Nat.le_of_ble_eq_true rfl, ?_⟩
          exact ⟨rfl, (g5, C, cc, gd, gp), ⟨hg, hcc⟩, ⟨rfl, trivial⟩, Ent.pick [0, 0, 1, 0] rfl, rfl⟩
      · refine ⟨by omega, by omega, by show (24 : Int) * n ≤ _; omega, by omega, fun gd => ?_⟩
        refine ⟨?_, ?_⟩
        · refine ⟨[], _, clone_ok _ gb h B (by omega) ((CellsAt.own 0 rfl).rh _) ((hs.rh _).rh _), ?_⟩
          rintro _ _ ⟨C, cc, rfl, rfl, hg, hcc⟩
          refine ⟨by omega, by omega, by show (24 : Int) * n ≤ _; omega, by omega, fun gp => ?_⟩
          refine ⟨rfl, rfl, 0, rfl, rfl, Nat.le_of_ble_eq_true rfl, ?_⟩
          exact ⟨rfl, (g5, C, cc, gd, gp), ⟨hg, hcc⟩, ⟨rfl, trivial⟩, Ent.pick [0, 1, 0, 0] rfl, rfl⟩
        · refine ⟨by omega, by omega, by show (24 : Int) * n ≤ _; omega, by omega, fun gp => ?_⟩
          refine ⟨[], _, clone_ok _ gb h B (by omega) ((CellsAt.own 0 rfl).rh _) ((hs.rh _).rh _), ?_⟩
          rintro _ _ ⟨C, cc, rfl, rfl, hg, hcc⟩
          refine ⟨rfl, rfl, 0, rfl, rfl, Nat.le_of_ble_eq_true rfl, ?_⟩
          exact ⟨rfl, (g5, C, cc, gd, gp), ⟨hg, hcc⟩, ⟨rfl, trivial⟩, Ent.pick [0, 2, 0, 0] rfl, rfl⟩
      · refine ⟨by omega, by omega, by show (24 : Int) * n ≤ _; omega, by omega, fun gp => ?_⟩
        refine ⟨?_, ?_⟩
        · refine ⟨[], _, clone_ok _ gb h B (by omega) ((CellsAt.own 0 rfl).rh _) ((hs.rh _).rh _), ?_⟩
          rintro _ _ ⟨C, cc, rfl, rfl, hg, hcc⟩
          refine ⟨by omega, by omega, by show (24 : Int) * n ≤ _; omega, by omega, fun gd => ?_⟩
          refine ⟨rfl, rfl, 0, rfl, rfl, Nat.le_of_ble_eq_true rfl, ?_⟩
          exact ⟨rfl, (g5, C, cc, gd, gp), ⟨hg, hcc⟩, ⟨rfl, trivial⟩, Ent.pick [0, 1, 1, 0] rfl, rfl⟩
        · refine ⟨by omega, by omega, by show (24 : Int) * n ≤ _; omega, by omega, fun gd => ?_⟩
          refine ⟨[], _, clone_ok _ gb h B (by omega) ((CellsAt.own 0 rfl).rh _) ((hs.rh _).rh _), ?_⟩
          rintro _ _ ⟨C, cc, rfl, rfl, hg, hcc⟩
          refine ⟨rfl, rfl, 0, rfl, rfl, Nat.le_of_ble_eq_true rfl, ?_⟩
          exact ⟨rfl, (g5, C, cc, gd, gp), ⟨hg, hcc⟩, ⟨rfl, trivial⟩, Ent.pick [0, 2, 1, 0] rfl, rfl⟩
--ENDCASES
  rintro ⟨g5, C, cc, gd, gp⟩ ⟨hg, hcc⟩ js
  refine ⟨_, rdOff (o := 0) (n := 6) 1 rfl rfl, rfl, ?_⟩
  intro g
  refine ⟨_, ?_,   .inr (.inr ⟨wf, rfl, g, rfl, C, cc, gd, gp, List.replicate n Sl.non, hg, hcc, fun s hs => by rw [(List.mem_replicate.1 hs).2]; exact SlOk.non, by rw [List.map_replicate, hnn]; rfl, rfl⟩)⟩
  rw [repl_one]
  unfold rcH
  rw [List.length_replicate, List.map_replicate, List.map_replicate]
  exact Ent.trans (b := [.blk g 105 (rcC h C cc gd gp n), .row C h.sums.length cc 9 1 (SV h.sums) (0, 0),
      .row (some ⟨gd, 0, .none⟩) n n 25 1 (List.replicate n (.slice .none 0 0)) (0, 0), .row (some ⟨gp, 0, .none⟩) n n 26 1 (List.replicate n (.slice .none 0 0)) (0, 0)]) (Ent.pick [5, 2, 2, 2] rfl) (rows_null (rows_non n))

/-! ### a part is received -/
def recvE (h : Hd) (sls : List Slot) (p : Pt) : Int :=
  if thereB h.sz p.off = true ∧ p.st = h.st ∧ p.ix = h.ix then
    (match sls.getD (p.off.toNat / 512) .none with
    | some _ => 5
    | .none => if seeB (h.sums.getD h.ix.toNat []) h.sz 512 ((p.off.toNat / 512 : Nat) : Int) p.dt p.path = true then 0 else 9) else 1
def recvS (h : Hd) (sls : List Slot) (p : Pt) : List Slot := if recvE h sls p = 0 then sls.set (p.off.toNat / 512) (some (p.dt, p.path)) else sls
theorem recvE_no {h : Hd} {sls : List Slot} {p : Pt} (hn : ¬ (thereB h.sz p.off = true ∧ p.st = h.st ∧ p.ix = h.ix)) : recvE h sls p = 1 := if_neg hn
theorem recvE_there {h : Hd} {sls : List Slot} {p : Pt} (hn : thereB h.sz p.off = true ∧ p.st = h.st ∧ p.ix = h.ix) {x : Str × List Str} (hs : sls.getD (p.off.toNat / 512) .none = some x) : recvE h sls p = 5 := by
  unfold recvE; rw [if_pos hn, hs]
theorem recvE_see {h : Hd} {sls : List Slot} {p : Pt} (hn : thereB h.sz p.off = true ∧ p.st = h.st ∧ p.ix = h.ix) (hs : sls.getD (p.off.toNat / 512) .none = .none) :
    recvE h sls p = if seeB (h.sums.getD h.ix.toNat []) h.sz 512 ((p.off.toNat / 512 : Nat) : Int) p.dt p.path = true then 0 else 9 := by
  unfold recvE; rw [if_pos hn, hs]
theorem recvS_no {h : Hd} {sls : List Slot} {p : Pt} (hn : recvE h sls p ≠ 0) : recvS h sls p = sls := if_neg hn
theorem recvS_yes {h : Hd} {sls : List Slot} {p : Pt} (hn : recvE h sls p = 0) : recvS h sls p = sls.set (p.off.toNat / 512) (some (p.dt, p.path)) := if_pos hn
/-- A state that receiving leads to. -/
structure GoodR (h : Hd) (sls : List Slot) : Prop where
  wf : WfH h
  root : rootOf h.sums = h.st
  len : sls.length = partsN h.sz.toNat
  see : ∀ (i : Nat) d p, sls[i]? = some (some (d, p)) → seeB (h.sums.getD h.ix.toNat []) h.sz 512 (i : Int) d p = true
theorem GoodR.new {h : Hd} (w : WfH h) (hr : rootOf h.sums = h.st) : GoodR h (List.replicate (partsN h.sz.toNat) .none) :=
  ⟨w, hr, List.length_replicate, fun i d p he => by
    have := List.mem_of_getElem? he
    cases (List.mem_replicate.1 this).2⟩
theorem there_lt {h : Hd} {sls : List Slot} (g : GoodR h sls) {off : Int} (ht : thereB h.sz off = true) : off.toNat / 512 < sls.length := by
  have ht := of_decide_eq_true ht
  rw [g.len]; unfold partsN; omega
theorem GoodR.recv {h : Hd} {sls : List Slot} (g : GoodR h sls) (p : Pt) : GoodR h (recvS h sls p) := by
  by_cases he : recvE h sls p = 0
  case neg => rw [recvS_no he]; exact g
  rw [recvS_yes he]
  refine ⟨g.wf, g.root, by rw [List.length_set]; exact g.len, fun i d q hi => ?_⟩
  rw [List.getElem?_set] at hi
  split at hi
  · rename_i hib
    subst hib
    split at hi
    · cases hi
      by_cases hn : thereB h.sz p.off = true ∧ p.st = h.st ∧ p.ix = h.ix
      case neg => rw [recvE_no hn] at he; cases he
      cases hs : sls.getD (p.off.toNat / 512) .none with
      | some x => rw [recvE_there hn hs] at he; cases he
      | none =>
        rw [recvE_see hn hs] at he
        split at he
        · assumption
        · cases he
    · cases hi
  · exact g.see i d q hi

theorem str0 {gd i n c : Nat} {e : TypeId} {sz : Nat} {xs : List Value} {fz : Nat × Nat} {v : Value} {K : HA → Prop} (h1 : i < xs.length) (hK : K (.row (some ⟨gd, 0, .none⟩) n c e sz (xs.set i v) fz)) :
    stE (.row (some ⟨gd, 0, .none⟩) n c e sz xs fz) (addA ⟨gd, 0, .none⟩ (Int.toNat (i : Int) * 1)) [v] K := by
  rw [toNat1, ← addA_eq, add_zero_addr]
  exact ⟨rfl, rfl, by show i + 1 ≤ _; omega, hK⟩
theorem rows_set {l : List Sl} {i : Nat} {s s' : Sl} (h : l[i]? = some s) : Ent [.rows (rowsS l), s'.r1.ha, s'.r2.ha] [.rows (rowsS (l.set i s'))] := by
  obtain ⟨a, b, rfl, rfl⟩ : ∃ a b, l = a ++ s :: b ∧ i = a.length := by
    obtain ⟨hlt, he⟩ := List.getElem?_eq_some_iff.1 h
    refine ⟨l.take i, l.drop (i + 1), ?_, by rw [List.length_take]; omega⟩
    rw [← he, ← List.drop_eq_getElem_cons hlt, List.take_append_drop]
  rw [List.set_append_right _ _ (Nat.le_refl _), Nat.sub_self]
  have e : ∀ x : Sl, rowsS (a ++ x :: b) = rowsS a ++ x.r1 :: x.r2 :: rowsS b := fun x => by unfold rowsS; rw [List.flatMap_append, List.flatMap_cons]; rfl
  show Ent _ [.rows (rowsS (a ++ s' :: b))]
  rw [e, e]
  refine Ent.trans (Ent.app (b := [s'.r1.ha, s'.r2.ha]) (Ent.rows_out (rowsS a) (s.r2 :: rowsS b) s.r1) (Ent.refl _)) ?_
  refine Ent.trans (Ent.dropr [_] _) ?_
  refine Ent.trans (Ent.app (b := [s'.r1.ha, s'.r2.ha]) (Ent.rows_out (rowsS a) (rowsS b) s.r2) (Ent.refl _)) ?_
  refine Ent.trans (Ent.dropr [_] _) ?_
  refine Ent.trans (b := [s'.r2.ha, .rows (rowsS a ++ rowsS b)] ++ [s'.r1.ha]) (Ent.pick [2, 0, 0] rfl) ?_
  refine Ent.trans (Ent.app (Ent.rows_in (rowsS a) (rowsS b) s'.r2) (Ent.refl _)) ?_
  refine Ent.trans (b := [s'.r1.ha, .rows (rowsS a ++ s'.r2 :: rowsS b)]) (Ent.pick [1, 0] rfl) ?_
  exact Ent.rows_in (rowsS a) (s'.r2 :: rowsS b) s'.r1
theorem pl_none {s : Sl} : s.pl = .none ↔ s.A = .none := by
  unfold Sl.pl
  cases s.A <;> simp
theorem pl_getD {sl : List Sl} {i : Nat} {s : Sl} (h : sl[i]? = some s) : (sl.map Sl.pl).getD i .none = s.pl := by
  rw [List.getD_eq_getElem?_getD, List.getElem?_map, h]; rfl
theorem dv_get {sl : List Sl} {i : Nat} {s : Sl} (h : sl[i]? = some s) : (sl.map Sl.dv)[i]? = some s.dv := by rw [List.getElem?_map, h]; rfl
theorem pv_get {sl : List Sl} {i : Nat} {s : Sl} (h : sl[i]? = some s) : (sl.map Sl.pv)[i]? = some s.pv := by rw [List.getElem?_map, h]; rfl

set_option maxRecDepth 100000 in
set_option maxHeartbeats 8000000 in
theorem Receive_ok (R : Rd) (hG : ShaG R) {g : Nat} {h : Hd} {sls : List Slot} {hp : Hp} (p : Pt) (D B : Value) (hrc : IsRc g h sls hp) (gd : GoodR h sls) (ho1 : -9223372036854775808 ≤ p.off) (ho2 : p.off ≤ 9223372036854775807)
    (hdl : p.dt.length ≤ 1000000000) (hpl : p.path.length ≤ 1000000000) (hd : Bs R D p.dt) (hs : Ss R B p.path) :
    Fn Tryd.prog 23 [.pointer (some ⟨g, 0, .none⟩), .agg ⟨ptC p D B⟩] hp R (fun v hp' => v = .int .i64 (recvE h sls p) ∧ IsRc g h (recvS h sls p) hp') := by
  have hML := maxLen_eq
  obtain ⟨C, cc, gdd, gp, sl, hg, hcc, ok, rfl, rfl⟩ := hrc
  have wf := gd.wf
  obtain ⟨a1, a2, a3, a4, a5, a6, a7, a8⟩ := wf
  refine fn_of_vc mixed tabOk Tryd.func23 rfl (by kernel_rfl) (Nat.le_of_ble_eq_true rfl) ?_
  intro gb
  refine ⟨[5,0], (.q 0 (.q 1 (.q 2 (.q 3 (.q 4 (.q 5 (.q 6 (.one 7 (.q 8 (.q 9 (.q 10 (.q 11 (.q 12 .nil))))))))))))), by kernel_rfl, ?_⟩
  refine ⟨_, ld 0 rfl rfl, ?_⟩
  refine ⟨_, ld 1 rfl rfl, ?_⟩
  refine ⟨[], _, number_ok42 _ p.off h.sz ho1 ho2, ?_⟩
  rintro _ _ ⟨rfl, rfl⟩
  by_cases ht : thereB h.sz p.off = true
  case neg =>
    have ht' : thereB h.sz p.off = false := by simpa using ht
    have hE := recvE_no (h := h) (sls := sl.map Sl.pl) (p := p) (fun hn => ht hn.1)
    rw [if_neg ht, ht', hE, recvS_no (by rw [hE]; decide)]
    refine ⟨[0,0], lexT 0 12, by kernel_rfl, ?_⟩
    repeat (first | (refine ⟨fun h => ?_, fun h => ?_⟩; rotate_left 1; (focus (exfalso; (first | (with_reducible (cases h; done)) | (revert h; simp; done) | (revert h; simp; omega) | (revert h; simp [*]; done)))); clear h) | (refine ⟨fun h => ?_, fun h => ?_⟩; (focus (exfalso; (first | (with_reducible (cases h; done)) | (revert h; simp; done) | (revert h; simp; omega) | (revert h; simp [*]; done)))); clear h))
    exact ⟨_, Ent.pick [1, 1, 1, 1, 1] rfl, rfl, C, cc, gdd, gp, sl, hg, hcc, ok, rfl, rfl⟩
  rw [if_pos ht, ht]
  refine ⟨[0,0], lexT 0 12, by kernel_rfl, ?_⟩
  repeat (first | (refine ⟨fun h => ?_, fun h => ?_⟩; rotate_left 1; (focus (exfalso; (first | (with_reducible (cases h; done)) | (revert h; simp; done) | (revert h; simp; omega) | (revert h; simp [*]; done)))); clear h) | (refine ⟨fun h => ?_, fun h => ?_⟩; (focus (exfalso; (first | (with_reducible (cases h; done)) | (revert h; simp; done) | (revert h; simp; omega) | (revert h; simp [*]; done)))); clear h))
  refine ⟨_, rdOff (o := 0) (n := 2) 0 rfl rfl, rfl, ?_⟩
  repeat (first | (refine ⟨fun h => ?_, fun h => ?_⟩; rotate_left 1; (focus (exfalso; (first | (with_reducible (cases h; done)) | (revert h; simp; done) | (revert h; simp; omega) | (revert h; simp [*]; done)))); clear h) | (refine ⟨fun h => ?_, fun h => ?_⟩; (focus (exfalso; (first | (with_reducible (cases h; done)) | (revert h; simp; done) | (revert h; simp; omega) | (revert h; simp [*]; done)))); clear h))
  refine ⟨_, rdOff (o := 0) (n := 2) 1 rfl rfl, rfl, ?_⟩
  repeat (first | (refine ⟨fun h => ?_, fun h => ?_⟩; rotate_left 1; (focus (exfalso; (first | (with_reducible (cases h; done)) | (revert h; simp; done) | (revert h; simp; omega) | (revert h; simp [*]; done)))); clear h) | (refine ⟨fun h => ?_, fun h => ?_⟩; (focus (exfalso; (first | (with_reducible (cases h; done)) | (revert h; simp; done) | (revert h; simp; omega) | (revert h; simp [*]; done)))); clear h))
  intro e he
  have he : e = true ↔ ([.string ⟨⟨p.st⟩⟩, .int .i64 p.ix] : List Value) = [.string ⟨⟨h.st⟩⟩, .int .i64 h.ix] := he
  have he : e = true ↔ (p.st = h.st ∧ p.ix = h.ix) := by
    rw [he]
    simp only [List.cons.injEq, Value.string.injEq, Value.int.injEq, ByteArray.mk.injEq, Array.mk.injEq, true_and, and_true]
  cases e
  · have hno : ¬ (thereB h.sz p.off = true ∧ p.st = h.st ∧ p.ix = h.ix) := fun hn => by have := he.2 hn.2; cases this
    have hE := recvE_no (h := h) (sls := sl.map Sl.pl) (p := p) hno
    rw [hE, recvS_no (by rw [hE]; decide)]
    repeat (first | (refine ⟨fun h => ?_, fun h => ?_⟩; rotate_left 1; (focus (exfalso; (first | (with_reducible (cases h; done)) | (revert h; simp; done) | (revert h; simp; omega) | (revert h; simp [*]; done)))); clear h) | (refine ⟨fun h => ?_, fun h => ?_⟩; (focus (exfalso; (first | (with_reducible (cases h; done)) | (revert h; simp; done) | (revert h; simp; omega) | (revert h; simp [*]; done)))); clear h))
    exact ⟨_, Ent.pick [1, 1, 1, 1, 1] rfl, rfl, C, cc, gdd, gp, sl, hg, hcc, ok, rfl, rfl⟩
  have hyes : thereB h.sz p.off = true ∧ p.st = h.st ∧ p.ix = h.ix := ⟨ht, he.1 rfl⟩
  clear he
  repeat (first | (refine ⟨fun h => ?_, fun h => ?_⟩; rotate_left 1; (focus (exfalso; (first | (with_reducible (cases h; done)) | (revert h; simp; done) | (revert h; simp; omega) | (revert h; simp [*]; done)))); clear h) | (refine ⟨fun h => ?_, fun h => ?_⟩; (focus (exfalso; (first | (with_reducible (cases h; done)) | (revert h; simp; done) | (revert h; simp; omega) | (revert h; simp [*]; done)))); clear h))
  have hlt := there_lt gd ht
  rw [List.length_map] at hlt
  obtain ⟨s, hsl⟩ : ∃ s, sl[p.off.toNat / 512]? = some s := ⟨_, List.getElem?_eq_getElem hlt⟩
  have hpg := pl_getD hsl
  obtain ⟨k, hk⟩ : ∃ k, k = p.off.toNat / 512 := ⟨_, rfl⟩
  rw [← hk] at hlt hsl hpg ⊢
  refine ⟨_, ld 1 rfl rfl, ?_⟩
  refine ⟨by omega, by omega, _, rfl, ?_⟩
  refine ⟨_, ldr1 3 rfl (dv_get hsl), ?_⟩
  cases hA : s.A with
  | some a =>
    have hE := recvE_there (h := h) (sls := sl.map Sl.pl) (p := p) hyes (x := (s.d, s.p)) (by rw [← hk, hpg]; unfold Sl.pl; rw [hA])
    rw [hE, recvS_no (by rw [hE]; decide)]
    repeat (first | (refine ⟨fun h => ?_, fun h => ?_⟩; rotate_left 1; (focus (exfalso; (first | (with_reducible (cases h; done)) | (revert h; simp; done) | (revert h; simp; omega) | (revert h; simp [*]; done)))); clear h) | (refine ⟨fun h => ?_, fun h => ?_⟩; (focus (exfalso; (first | (with_reducible (cases h; done)) | (revert h; simp; done) | (revert h; simp; omega) | (revert h; simp [*]; done)))); clear h))
    exact ⟨_, Ent.pick [1, 1, 1, 1, 1] rfl, rfl, C, cc, gdd, gp, sl, hg, hcc, ok, rfl, rfl⟩
  | none =>
  have hE := recvE_see (h := h) (sls := sl.map Sl.pl) (p := p) hyes (by rw [← hk, hpg]; unfold Sl.pl; rw [hA])
  rw [← hk] at hE
  repeat (first | (refine ⟨fun h => ?_, fun h => ?_⟩; rotate_left 1; (focus (exfalso; (first | (with_reducible (cases h; done)) | (revert h; simp; done) | (revert h; simp; omega) | (revert h; simp [*]; done)))); clear h) | (refine ⟨fun h => ?_, fun h => ?_⟩; (focus (exfalso; (first | (with_reducible (cases h; done)) | (revert h; simp; done) | (revert h; simp; omega) | (revert h; simp [*]; done)))); clear h))
  have hd' := hd
  obtain ⟨D1, cd1, rfl, hcd1, hdr⟩ := hd'
  have hix : (h.ix.toNat : Int) = h.ix := by omega
  have hss : Ss (RH R [.blk gb 68 (ptC p (.slice D1 p.dt.length cd1) B), .blk g 105 (rcC h C cc gdd gp sl.length), .row C h.sums.length cc 9 1 (SV h.sums) (0, 0)]) (.slice C h.sums.length cc) h.sums := ss_own 2 rfl hg hcc
  obtain ⟨C', cc', e, _, hsr⟩ := hss
  cases e
  obtain ⟨a, ha, hr⟩ := hsr.one (i := h.ix.toNat) (by omega)
  rw [hix] at hr
  refine ⟨[0,0,0], (.q 0 (.q 1 (.q 2 (.q 3 (.q 4 (.q 5 (.q 6 (.q 7 (.q 8 (.q 9 (.q 10 (.q 11 (.q 12 (.q 13 (.q 14 (.q 15 (.q 16 (.q 17 (.q 18 (.q 19 (.q 20 (.q 21 (.q 22 (.one 23 (.q 24 .nil))))))))))))))))))))))))), by kernel_rfl, ?_⟩
  refine ⟨_, ld 1 rfl rfl, ?_⟩
  refine ⟨_, ld 1 rfl rfl, ?_⟩
  refine ⟨by omega, by omega, a, ha, ?_⟩
  refine ⟨_, hr, ?_⟩
  refine ⟨_, ld 1 rfl rfl, ?_⟩
  refine ⟨_, ld 0 rfl rfl, ?_⟩
  refine ⟨_, ld 0 rfl rfl, ?_⟩
  refine ⟨[], _, See_okL _ ((hG.rh _).rh _) (h.sums.getD h.ix.toNat []) h.sz 512 (k : Int) p.dt D1 cd1 p.path B (by omega) (by omega) (by omega) hdl hcd1 ((hdr.rh _).rh _) hpl ((hs.rh _).rh _), ?_⟩
  rintro _ _ ⟨rfl, rfl⟩
  by_cases hsee : seeB (h.sums.getD h.ix.toNat []) h.sz 512 (k : Int) p.dt p.path = true
  case neg =>
    rw [if_neg hsee] at hE
    have hsee' : seeB (h.sums.getD h.ix.toNat []) h.sz 512 (k : Int) p.dt p.path = false := by simpa using hsee
    rw [hE, recvS_no (by rw [hE]; decide), hsee']
    repeat (first | (refine ⟨fun h => ?_, fun h => ?_⟩; rotate_left 1; (focus (exfalso; (first | (with_reducible (cases h; done)) | (revert h; simp; done) | (revert h; simp; omega) | (revert h; simp [*]; done)))); clear h) | (refine ⟨fun h => ?_, fun h => ?_⟩; (focus (exfalso; (first | (with_reducible (cases h; done)) | (revert h; simp; done) | (revert h; simp; omega) | (revert h; simp [*]; done)))); clear h))
    exact ⟨_, Ent.pick [1, 1, 1, 1, 1] rfl, rfl, C, cc, gdd, gp, sl, hg, hcc, ok, rfl, rfl⟩
  rw [if_pos hsee] at hE
  rw [hE, recvS_yes hE, ← hk, hsee]
  repeat (first | (refine ⟨fun h => ?_, fun h => ?_⟩; rotate_left 1; (focus (exfalso; (first | (with_reducible (cases h; done)) | (revert h; simp; done) | (revert h; simp; omega) | (revert h; simp [*]; done)))); clear h) | (refine ⟨fun h => ?_, fun h => ?_⟩; (focus (exfalso; (first | (with_reducible (cases h; done)) | (revert h; simp; done) | (revert h; simp; omega) | (revert h; simp [*]; done)))); clear h))
  have hl1 : k < (sl.map Sl.dv).length := by rw [List.length_map]; exact hlt
  have hl2 : k < (sl.map Sl.pv).length := by rw [List.length_map]; exact hlt
  refine ⟨[0,0], (.q 0 (.q 1 (.q 2 (.q 3 (.q 4 (.q 5 (.q 6 (.one 7 (.q 8 (.fin 9)))))))))), by kernel_rfl, ?_⟩
  refine ⟨_, ld 1 rfl rfl, ?_⟩
  refine ⟨_, ld 0 rfl rfl, ?_⟩
  refine ⟨[], _, CloneB_ok _ p.dt _ (by omega) ((hd.rh _).rh _), ?_⟩
  rintro _ _ ⟨A', cap', rfl, rfl, hg', hc'⟩
  refine ⟨by omega, by omega, _, rfl, ?_⟩
  refine ⟨rfl, rfl, 3, nthK_mk rfl (str0 hl1 ?_)⟩
  refine ⟨[0,0], (.q 0 (.q 1 (.q 2 (.q 3 (.q 4 (.q 5 (.q 6 (.one 7 (.q 8 (.fin 9)))))))))), by kernel_rfl, ?_⟩
  refine ⟨_, ld 1 rfl rfl, ?_⟩
  refine ⟨_, ld 0 rfl rfl, ?_⟩
  refine ⟨[], _, CloneS_ok _ p.path _ (by omega) ((hs.rh _).rh _), ?_⟩
  rintro _ _ ⟨B', cb', rfl, rfl, hgb', hcb'⟩
  refine ⟨by omega, by omega, _, rfl, ?_⟩
  refine ⟨rfl, rfl, 4, nthK_mk rfl (str0 hl2 ?_)⟩
  have hdt : p.dt ≠ [] := fun e => by
    rw [seeB, e] at hsee
    have hof := of_decide_eq_true ht
    split at hsee
    · split at hsee
      · rename_i h1 h2
        have h2 : 0 = min 512 (h.sz.toNat - k * 512) := h2
        omega
      · cases hsee
    · cases hsee
  have hA' : A' ≠ .none := fun e => by
    rcases hg' with h0 | ⟨q, h0⟩
    · exact hdt (List.eq_nil_of_length_eq_zero h0)
    · rw [e] at h0; cases h0
  obtain ⟨a', rfl⟩ : ∃ a', A' = some a' := by
    cases A' with
    | none => exact absurd rfl hA'
    | some a' => exact ⟨a', rfl⟩
  refine ⟨_, ?_, rfl, C, cc, gdd, gp, sl.set k ⟨some a', cap', p.dt, B', cb', p.path⟩, hg, hcc, fun s' hs' => ?_, ?_, rfl⟩
  · unfold rcH
    rw [List.length_set, List.map_set, List.map_set]
    refine Ent.trans (b := ([.blk g 105 (rcC h C cc gdd gp sl.length), .row C h.sums.length cc 9 1 (SV h.sums) (0, 0),
      .row (some ⟨gdd, 0, .none⟩) sl.length sl.length 25 1 ((sl.map Sl.dv).set k (.slice (some a') p.dt.length cap')) (0, 0), .row (some ⟨gp, 0, .none⟩) sl.length sl.length 26 1 ((sl.map Sl.pv).set k (.slice B' p.path.length cb')) (0, 0)] : Hp) ++ ([.rows (rowsS sl), (Sl.r1 ⟨some a', cap', p.dt, B', cb', p.path⟩).ha, (Sl.r2 ⟨some a', cap', p.dt, B', cb', p.path⟩).ha] : Hp)) ?_ (Ent.app (Ent.refl _) (rows_set hsl))
    exact Ent.pick [1, 1, 1, 1, 1, 1, 1] rfl
  · rcases List.mem_or_eq_of_mem_set hs' with hs' | rfl
    · exact ok s' hs'
    · exact ⟨hg', hgb', hc', hcb', fun e => by cases e⟩
  · rw [List.map_set]; rfl

end Go.Proofs.YtgnmbgbiajgpeaaDoor
