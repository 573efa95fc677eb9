/-
  Transfer: contracts of example, same, sameHead, samePart; the reference's Show, PartFits, Ints.
-/
import Derived.Test.YtoddabjacjkjbaaDoorTrj
namespace Go.Proofs.YtoddabjacjkjbaaDoor
open Go Go.RowKit
set_option linter.unusedVariables false

set_option maxRecDepth 100000 in
theorem example_ok (R : Rd) (hG : ShaG R) (p : Pc) (D S : Value) (w : VPc p) (hd : Bs R D p.dt) (hs : Ss R S p.sums) : Fn Tryd.prog 39 [.agg ⟨pcC p D S⟩] [] R
    (fun v h => ∃ gs gr h1 h2, v = .tuple ⟨[.pointer (some ⟨gs, 0, .none⟩), .pointer (some ⟨gr, 0, .none⟩)]⟩ ∧ h = h1 ++ h2 ∧ IsSd gs p h1 ∧ IsRc gr p.hd (List.replicate (partsN p.dt.length) .none) h2) := by
  have hn : p.sums.length ≤ 16 := w.wf.n2
  refine fn_of_vc mixed tabOk Tryd.func39 rfl (by kernel_rfl) (Nat.le_of_ble_eq_true rfl) ?_
  intro gb
  refine ⟨_, rdOff (o := 0) (n := 4) 0 rfl rfl, rfl, ?_⟩
  refine ⟨[], _, NewSender_ok _ (hG.rh _) p D S (hd.rh _) (hs.rh _), ?_⟩
  rintro _ _ (⟨hno, _⟩ | ⟨_, gs, rfl, C, cc, D1, cd, hg1, hc1, hg2, hc2, rfl⟩)
  · exact absurd w hno
  repeat (first | (refine ⟨fun h => ?_, fun h => ?_⟩; rotate_left 1; (focus (exfalso; (first | (with_reducible (cases h; done)) | (revert h; simp; done) | (revert h; simp; omega) | (revert h; simp [*]; done)))); clear h) | (refine ⟨fun h => ?_, fun h => ?_⟩; (focus (exfalso; (first | (with_reducible (cases h; done)) | (revert h; simp; done) | (revert h; simp; omega) | (revert h; simp [*]; done)))); clear h))
  refine ⟨[], _, SHead_ok _ (by omega) (sd_own 1 2 3 hg1 hc1 hg2 hc2 rfl rfl rfl), ?_⟩
  rintro _ _ ⟨C2, cc2, rfl, rfl, hg3, hc3⟩
  refine ⟨[], _, NewReceiver_ok _ (hG.rh _) p.hd _ (ss_own 4 rfl hg3 hc3), ?_⟩
  rintro _ _ (⟨hno, _⟩ | ⟨_, hno, _⟩ | ⟨_, _, gr, rfl, C3, cc3, gd, gp, sl, hg4, hc4, ok, hpl, rfl⟩)
  · exact absurd w.wf hno
  · exact absurd w.root hno
  repeat (first | (refine ⟨fun h => ?_, fun h => ?_⟩; rotate_left 1; (focus (exfalso; (first | (with_reducible (cases h; done)) | (revert h; simp; done) | (revert h; simp; omega) | (revert h; simp [*]; done)))); clear h) | (refine ⟨fun h => ?_, fun h => ?_⟩; (focus (exfalso; (first | (with_reducible (cases h; done)) | (revert h; simp; done) | (revert h; simp; omega) | (revert h; simp [*]; done)))); clear h))
  exact ⟨_, Ent.pick [1, 1, 1, 2, 2, 2, 2, 2] rfl, gs, gr, sdH gs p C cc D1 cd, rcH gr p.hd C3 cc3 gd gp sl, rfl, rfl, ⟨C, cc, D1, cd, hg1, hc1, hg2, hc2, rfl⟩, C3, cc3, gd, gp, sl, hg4, hc4, ok, by rw [hpl]; show List.replicate (partsN (p.dt.length : Int).toNat) _ = _; rw [Int.toNat_natCast], rfl⟩

theorem id_iff {e : Bool} {s t : Str} {i j : Int} (he : e = true ↔ ([.string ⟨⟨s⟩⟩, .int .i64 i] : List Value) = [.string ⟨⟨t⟩⟩, .int .i64 j]) : e = decide (s = t ∧ i = j) := by
  rw [Bool.eq_iff_iff, he, decide_eq_true_iff]
  simp only [List.cons.injEq, Value.string.injEq, Value.int.injEq, ByteArray.mk.injEq, Array.mk.injEq, true_and, and_true]
def eqPc (p q : Pc) : Prop := (p.st = q.st ∧ p.ix = q.ix) ∧ p.dt = q.dt ∧ p.sums = q.sums
instance instDecEqPc (p q : Pc) : Decidable (eqPc p q) := by unfold eqPc; exact inferInstance
set_option maxRecDepth 100000 in
set_option maxHeartbeats 2000000 in
theorem same42_ok (R : Rd) (p q : Pc) (D S D2 S2 : Value) (hn : p.sums.length ≤ 1000000) (hd : Bs R D p.dt) (hs : Ss R S p.sums) (hd2 : Bs R D2 q.dt) (hs2 : Ss R S2 q.sums) :
    Fn Tryd.prog 97 [.agg ⟨pcC p D S⟩, .agg ⟨pcC q D2 S2⟩] [] R (fun v h => v = .bool (decide (eqPc p q)) ∧ h = []) := by
  obtain ⟨A, cap, rfl, hc, hdr⟩ := hd
  obtain ⟨A2, cap2, rfl, hc2, hdr2⟩ := hd2
  refine fn_of_vc mixed tabOk Tryd.func97 rfl (by kernel_rfl) (Nat.le_of_ble_eq_true rfl) ?_
  intro g1 g2
  refine ⟨_, rdOff (o := 0) (n := 2) 0 rfl rfl, rfl, ?_⟩
  refine ⟨_, rdOff (o := 0) (n := 2) 1 rfl rfl, rfl, ?_⟩
  intro e he
  obtain rfl := id_iff (s := p.st) (t := q.st) (i := p.ix) (j := q.ix) he
  by_cases c1 : p.st = q.st ∧ p.ix = q.ix
  case neg =>
    rw [decide_eq_false c1]
    repeat (first | (refine ⟨fun h => ?_, fun h => ?_⟩; rotate_left 1; (focus (exfalso; (first | (with_reducible (cases h; done)) | (revert h; simp; done) | (revert h; simp; omega) | (revert h; simp [*]; done)))); clear h) | (refine ⟨fun h => ?_, fun h => ?_⟩; (focus (exfalso; (first | (with_reducible (cases h; done)) | (revert h; simp; done) | (revert h; simp; omega) | (revert h; simp [*]; done)))); clear h))
    exact ⟨_, Ent.nil _, no_D rfl (fun h => c1 h.1), rfl⟩
  rw [decide_eq_true c1]
  repeat (first | (refine ⟨fun h => ?_, fun h => ?_⟩; rotate_left 1; (focus (exfalso; (first | (with_reducible (cases h; done)) | (revert h; simp; done) | (revert h; simp; omega) | (revert h; simp [*]; done)))); clear h) | (refine ⟨fun h => ?_, fun h => ?_⟩; (focus (exfalso; (first | (with_reducible (cases h; done)) | (revert h; simp; done) | (revert h; simp; omega) | (revert h; simp [*]; done)))); clear h))
  refine ⟨_, ld 0 rfl rfl, ?_⟩
  repeat (first | (refine ⟨fun h => ?_, fun h => ?_⟩; rotate_left 1; (focus (exfalso; (first | (with_reducible (cases h; done)) | (revert h; simp; done) | (revert h; simp; omega) | (revert h; simp [*]; done)))); clear h) | (refine ⟨fun h => ?_, fun h => ?_⟩; (focus (exfalso; (first | (with_reducible (cases h; done)) | (revert h; simp; done) | (revert h; simp; omega) | (revert h; simp [*]; done)))); clear h))
  refine ⟨p.dt, rfl, fun j b hb => (hdr.rh _).at_ hb, ?_⟩
  repeat (first | (refine ⟨fun h => ?_, fun h => ?_⟩; rotate_left 1; (focus (exfalso; (first | (with_reducible (cases h; done)) | (revert h; simp; done) | (revert h; simp; omega) | (revert h; simp [*]; done)))); clear h) | (refine ⟨fun h => ?_, fun h => ?_⟩; (focus (exfalso; (first | (with_reducible (cases h; done)) | (revert h; simp; done) | (revert h; simp; omega) | (revert h; simp [*]; done)))); clear h))
  refine ⟨_, ld 1 rfl rfl, ?_⟩
  repeat (first | (refine ⟨fun h => ?_, fun h => ?_⟩; rotate_left 1; (focus (exfalso; (first | (with_reducible (cases h; done)) | (revert h; simp; done) | (revert h; simp; omega) | (revert h; simp [*]; done)))); clear h) | (refine ⟨fun h => ?_, fun h => ?_⟩; (focus (exfalso; (first | (with_reducible (cases h; done)) | (revert h; simp; done) | (revert h; simp; omega) | (revert h; simp [*]; done)))); clear h))
  refine ⟨q.dt, rfl, fun j b hb => (hdr2.rh _).at_ hb, ?_⟩
  repeat (first | (refine ⟨fun h => ?_, fun h => ?_⟩; rotate_left 1; (focus (exfalso; (first | (with_reducible (cases h; done)) | (revert h; simp; done) | (revert h; simp; omega) | (revert h; simp [*]; done)))); clear h) | (refine ⟨fun h => ?_, fun h => ?_⟩; (focus (exfalso; (first | (with_reducible (cases h; done)) | (revert h; simp; done) | (revert h; simp; omega) | (revert h; simp [*]; done)))); clear h))
  by_cases c2 : p.dt = q.dt
  case neg =>
    repeat (first | (refine ⟨fun h => ?_, fun h => ?_⟩; rotate_left 1; (focus (exfalso; (first | (with_reducible (cases h; done)) | (revert h; simp; done) | (revert h; simp; omega) | (revert h; simp [*]; done)))); clear h) | (refine ⟨fun h => ?_, fun h => ?_⟩; (focus (exfalso; (first | (with_reducible (cases h; done)) | (revert h; simp; done) | (revert h; simp; omega) | (revert h; simp [*]; done)))); clear h))
    exact ⟨_, Ent.nil _, no_D rfl (fun h => c2 h.2.1), rfl⟩
  repeat (first | (refine ⟨fun h => ?_, fun h => ?_⟩; rotate_left 1; (focus (exfalso; (first | (with_reducible (cases h; done)) | (revert h; simp; done) | (revert h; simp; omega) | (revert h; simp [*]; done)))); clear h) | (refine ⟨fun h => ?_, fun h => ?_⟩; (focus (exfalso; (first | (with_reducible (cases h; done)) | (revert h; simp; done) | (revert h; simp; omega) | (revert h; simp [*]; done)))); clear h))
  refine ⟨_, ld 0 rfl rfl, ?_⟩
  repeat (first | (refine ⟨fun h => ?_, fun h => ?_⟩; rotate_left 1; (focus (exfalso; (first | (with_reducible (cases h; done)) | (revert h; simp; done) | (revert h; simp; omega) | (revert h; simp [*]; done)))); clear h) | (refine ⟨fun h => ?_, fun h => ?_⟩; (focus (exfalso; (first | (with_reducible (cases h; done)) | (revert h; simp; done) | (revert h; simp; omega) | (revert h; simp [*]; done)))); clear h))
  refine ⟨_, ld 1 rfl rfl, ?_⟩
  repeat (first | (refine ⟨fun h => ?_, fun h => ?_⟩; rotate_left 1; (focus (exfalso; (first | (with_reducible (cases h; done)) | (revert h; simp; done) | (revert h; simp; omega) | (revert h; simp [*]; done)))); clear h) | (refine ⟨fun h => ?_, fun h => ?_⟩; (focus (exfalso; (first | (with_reducible (cases h; done)) | (revert h; simp; done) | (revert h; simp; omega) | (revert h; simp [*]; done)))); clear h))
  refine ⟨[], _, texts_ok _ p.sums q.sums _ _ (by omega) (hs.rh _) (hs2.rh _), ?_⟩
  rintro _ _ ⟨rfl, rfl⟩
  repeat (first | (refine ⟨fun h => ?_, fun h => ?_⟩; rotate_left 1; (focus (exfalso; (first | (with_reducible (cases h; done)) | (revert h; simp; done) | (revert h; simp; omega) | (revert h; simp [*]; done)))); clear h) | (refine ⟨fun h => ?_, fun h => ?_⟩; (focus (exfalso; (first | (with_reducible (cases h; done)) | (revert h; simp; done) | (revert h; simp; omega) | (revert h; simp [*]; done)))); clear h))
  by_cases c3 : p.sums = q.sums
  · exact ⟨_, Ent.nil _, yes_D (decide_eq_true c3) ⟨c1, c2, c3⟩, rfl⟩
  · exact ⟨_, Ent.nil _, no_D (decide_eq_false c3) (fun h => c3 h.2.2), rfl⟩

def eqHd (p q : Hd) : Prop := (p.st = q.st ∧ p.ix = q.ix) ∧ p.sz = q.sz ∧ p.sums = q.sums
instance instDecEqHd (p q : Hd) : Decidable (eqHd p q) := by unfold eqHd; exact inferInstance
def eqPt (p q : Pt) : Prop := (p.st = q.st ∧ p.ix = q.ix) ∧ p.off = q.off ∧ p.dt = q.dt ∧ p.path = q.path
instance instDecEqPt (p q : Pt) : Decidable (eqPt p q) := by unfold eqPt; exact inferInstance
/-- Numbers that may be read. -/
def NsR (R : Rd) (v : Value) (l : List Nat) : Prop := SlR R 1 v l.length (NV l)
theorem NsR.one {R : Rd} {A : Option Addr} {n cap : Nat} {l : List Nat} (h : NsR R (.slice A n cap) l) {i : Nat} (hi : i < l.length) : ∃ a, A = some a ∧ R (addA a (Int.toNat (i : Int) * 1)) (.int .i64 ((l.getD i 0 : Nat) : Int)) := by
  have hb : (NV l)[i]? = some (.int .i64 ((l.getD i 0 : Nat) : Int)) := by
    unfold NV
    rw [List.getElem?_map, List.getD_eq_getElem?_getD, List.getElem?_eq_getElem hi]; rfl
  obtain ⟨_, A', cap', e, h⟩ := h
  cases e
  obtain ⟨a, ha, hr⟩ := h i _ hb
  exact ⟨a, ha, by rw [toNat1, ← addA_eq]; exact hr⟩
set_option maxRecDepth 100000 in
set_option maxHeartbeats 2000000 in
theorem Ints_ok (R : Rd) (a b : List Nat) (u v : Value) (ha : a.length ≤ 1000000000000) (hu : NsR R u a) (hv : NsR R v b) : Fn Tryd.prog 95 [u, v] [] R (fun v h => v = .bool (decide (a = b)) ∧ h = []) := by
  obtain ⟨A, cap, rfl⟩ := hu.slice
  obtain ⟨B, cb, rfl⟩ := hv.slice
  refine fn_of_vc mixed tabOk Tryd.func95 rfl (by kernel_rfl) (Nat.le_of_ble_eq_true rfl) ?_
  by_cases hl : (a.length : Int) = b.length
  case neg =>
    repeat (first | (refine ⟨fun h => ?_, fun h => ?_⟩; rotate_left 1; (focus (exfalso; (first | (with_reducible (cases h; done)) | (revert h; simp; done) | (revert h; simp; omega) | (revert h; simp [*]; done)))); clear h) | (refine ⟨fun h => ?_, fun h => ?_⟩; (focus (exfalso; (first | (with_reducible (cases h; done)) | (revert h; simp; done) | (revert h; simp; omega) | (revert h; simp [*]; done)))); clear h))
    exact ⟨_, Ent.refl _, no_D rfl (fun e => hl (by rw [e])), rfl⟩
  have hl2 : a.length = b.length := by omega
  repeat (first | (refine ⟨fun h => ?_, fun h => ?_⟩; rotate_left 1; (focus (exfalso; (first | (with_reducible (cases h; done)) | (revert h; simp; done) | (revert h; simp; omega) | (revert h; simp [*]; done)))); clear h) | (refine ⟨fun h => ?_, fun h => ?_⟩; (focus (exfalso; (first | (with_reducible (cases h; done)) | (revert h; simp; done) | (revert h; simp; omega) | (revert h; simp [*]; done)))); clear h))
  refine ⟨[none, none, none, none, some 4, some 5, none, none, none, none, none, some 11, some 12, some 13, some 14, some 15, some 16, some 17, some 18, some 19, some 20, some 21, some 22, some 23, some 24, some 25], [5], Nat, fun i => i ≤ a.length ∧ a.take i = b.take i, fun i => [.int .i64 i], fun _ => [], fun i => a.length - i, 0, ⟨Nat.zero_le _, rfl⟩, ⟨rfl, trivial⟩, Ent.refl _, ?_⟩
  rintro i ⟨hi, he⟩ js
  refine ⟨fun hb => ?_, fun hb => ?_⟩
  · replace hb := of_decide_eq_true hb
    have hlt : i < a.length := by omega
    obtain ⟨x, rfl, hx⟩ := hu.one hlt
    obtain ⟨y, rfl, hy⟩ := hv.one (show i < b.length by omega)
    have hga : a[i]? = some (a.getD i 0) := by rw [List.getD_eq_getElem?_getD, List.getElem?_eq_getElem hlt]; rfl
    have hgb : b[i]? = some (b.getD i 0) := by rw [List.getD_eq_getElem?_getD, List.getElem?_eq_getElem (show i < b.length by omega)]; rfl
    generalize a.getD i 0 = s at *
    generalize b.getD i 0 = t at *
    refine ⟨[], lexT 0 9, by kernel_rfl, ?_⟩
    refine ⟨by omega, by omega, x, rfl, _, .inl hx, ?_⟩
    refine ⟨by omega, by omega, y, rfl, _, .inl hy, ?_⟩
    by_cases c : (s : Int) = t
    · repeat (first | (refine ⟨fun h => ?_, fun h => ?_⟩; rotate_left 1; (focus (exfalso; (first | (with_reducible (cases h; done)) | (revert h; simp; done) | (revert h; simp; omega) | (revert h; simp [*]; done)))); clear h) | (refine ⟨fun h => ?_, fun h => ?_⟩; (focus (exfalso; (first | (with_reducible (cases h; done)) | (revert h; simp; done) | (revert h; simp; omega) | (revert h; simp [*]; done)))); clear h))
      (intro z hz; obtain rfl : z = ((i + 1 : Nat) : Int) := (by first | (rw [IntKind.wrap_i64] at hz; omega) | (rw [IntKind.wrap_u64] at hz; omega) | omega); clear hz)
      obtain rfl : s = t := by omega
      exact ⟨rfl, i + 1, ⟨hlt, by rw [List.take_add_one, List.take_add_one, hga, hgb, he]⟩, by show a.length - (i + 1) < a.length - i; omega, ⟨rfl, trivial⟩, Ent.refl _, rfl⟩
    · repeat (first | (refine ⟨fun h => ?_, fun h => ?_⟩; rotate_left 1; (focus (exfalso; (first | (with_reducible (cases h; done)) | (revert h; simp; done) | (revert h; simp; omega) | (revert h; simp [*]; done)))); clear h) | (refine ⟨fun h => ?_, fun h => ?_⟩; (focus (exfalso; (first | (with_reducible (cases h; done)) | (revert h; simp; done) | (revert h; simp; omega) | (revert h; simp [*]; done)))); clear h))
      exact ⟨_, Ent.refl _, no_D rfl (fun e => c (by rw [e, hgb] at hga; rw [Option.some.inj hga])), rfl⟩
  · replace hb := of_decide_eq_false hb
    obtain rfl : i = a.length := by omega
    rw [List.take_length, hl2, List.take_length] at he
    exact ⟨_, Ent.refl _, yes_D rfl he, rfl⟩

/-- A part. -/
def OutQ (x : Pt) (v : Value) (h : Hp) : Prop := ∃ A cap B cb, v = .agg ⟨ptC x (.slice A x.dt.length cap) (.slice B x.path.length cb)⟩ ∧
    h = [.row A x.dt.length cap 5 1 (BV x.dt) (0, 0), .row B x.path.length cb 9 1 (SV x.path) (0, 0)] ∧ grow x.dt.length A ∧ x.dt.length ≤ cap ∧ grow x.path.length B ∧ x.path.length ≤ cb
theorem refShow_okc (R : Rd) (x : Str) (A : Option Addr) (cap : Nat) (size block : Int) (hsz : size ≤ 9223372036854775807) (hx : x.length ≤ 1048576) (hcap : x.length ≤ cap) (hs : BsR R (.slice A x.length cap) x) :
    Fn Tryd.prog 104 [.slice A x.length cap, .int .i64 size, .int .i64 block] [] R (fun v h => ShowPostc x size block v h) :=
  Fn.post (refShow_ok R x A cap size block hsz hx hcap hs) fun v h w p o => by
    rcases p with p | ⟨gd, A1, k1, c1, bs, A2, k2, c2, p, rfl, hg2, hg1, rfl, rfl, hv, hb, hp⟩
    · exact .inl p
    · exact .inr ⟨gd, A1, c1, bs, A2, c2, p, rfl, hg2, hg1, (row_cap o 0 rfl).1, (row_cap o 1 rfl).1, hv, hb, hp⟩
set_option maxRecDepth 100000 in
set_option maxHeartbeats 2000000 in
theorem rShow_ok (R : Rd) (p : Pc) (D S : Value) (hn : p.dt.length ≤ 1000000) (off : Int) (ht : thereB p.dt.length off = true) (hd : Bs R D p.dt) :
    Fn Tryd.prog 42 [.agg ⟨pcC p D S⟩, .int .i64 off] [] R (OutQ (partAt p (off.toNat / 512))) := by
  obtain ⟨A, cap, rfl, hcd, hd⟩ := hd
  have ho := of_decide_eq_true ht
  refine fn_of_vc mixed tabOk Tryd.func42 rfl (by kernel_rfl) (Nat.le_of_ble_eq_true rfl) ?_
  intro gb g4
  refine ⟨_, ld 0 rfl rfl, ?_⟩
  refine ⟨by decide, ?_⟩
  intro z hz
  obtain rfl := quo_nat (a := off.toNat) (b := 512) (by omega) (by omega) hz
  clear hz
  have hgd := there_good ht
  refine ⟨[], _, refShow_okc _ p.dt A cap 512 ((off.toNat / 512 : Nat) : Int) (by omega) (by omega) hcd (hd.rh _), ?_⟩
  rintro _ _ (⟨hno, _⟩ | ⟨_, A1, c1, bs, A2, c2, pp, rfl, hg2, hg1, hc2, hc1, rfl, hbs, hpp⟩)
  · exact absurd hgd hno
  refine ⟨_, rdOff (o := 0) (n := 2) 0 rfl rfl, rfl, ?_⟩
  refine ⟨rfl, rfl, 1, rfl, rfl, Nat.le_of_ble_eq_true rfl, ?_⟩
  refine ⟨_, rdOff (o := 0) (n := 5) 1 rfl rfl, rfl, ?_⟩
  have hbs : bs = (partAt p (off.toNat / 512)).dt := hbs
  have hpp : pp = (partAt p (off.toNat / 512)).path := hpp
  subst hbs hpp
  refine ⟨_, Ent.pick [3, 2] rfl, A1, c1, A2, c2, ?_, rfl, hg1, hc1, hg2, hc2⟩
  have e : off = ((off.toNat / 512 * 512 : Nat) : Int) := by omega
  show Value.agg ⟨[.string ⟨⟨p.st⟩⟩, .int .i64 p.ix, .int .i64 off, _, _]⟩ = .agg ⟨[.string ⟨⟨p.st⟩⟩, .int .i64 p.ix, .int .i64 ((off.toNat / 512 * 512 : Nat) : Int), _, _]⟩
  rw [← e]

end Go.Proofs.YtoddabjacjkjbaaDoor
