/-
  Transfer: the reference's Check.
-/
import Derived.Test.YtnifppnpplgghaaGreatDoorTsc
namespace Go.Proofs.YtnifppnpplgghaaGreatDoor
open Go Go.RowKit
set_option linter.unusedVariables false
set_option linter.unusedSimpArgs false

set_option maxRecDepth 100000 in
set_option maxHeartbeats 4000000 in
theorem rPartFits_ok (R : Rd) (h : Hd) (p : Pt) (B D B2 : Value) (w : WfH h) (hs : Ss R B h.sums) (ht : thereB h.sz p.off = true) (hdl : p.dt.length ≤ 1000000000) (hpl : p.path.length ≤ 1000000000) (hd : Bs R D p.dt) (hs2 : Ss R B2 p.path) :
    Fn Tryz.prog 52 [.agg ⟨hdC h B⟩, .agg ⟨ptC p D B2⟩] [] R (fun v hq => v = .bool (seeB (h.sums.getD h.ix.toNat []) h.sz 512 ((p.off.toNat / 512 : Nat) : Int) p.dt p.path) ∧ hq = []) := by
  have hML := maxLen_eq
  obtain ⟨a1, a2, a3, a4, a5, a6, a7, a8⟩ := w
  have hto := of_decide_eq_true ht
  obtain ⟨A, cap, rfl, hc, hsr⟩ := hs
  obtain ⟨DA, dc, rfl, hdc, hdr⟩ := hd
  obtain ⟨k, hk⟩ : ∃ k : Nat, h.ix = k := ⟨h.ix.toNat, by omega⟩
  have hkt : h.ix.toNat = k := by omega
  obtain ⟨sa, rfl, hsa⟩ := hsr.one (i := k) (by omega)
  rw [← hkt, Int.toNat_of_nonneg a5] at hsa
  refine fn_of_vc mixed tabOk Tryz.func52 rfl (by kernel_rfl) (Nat.le_of_ble_eq_true rfl) ?_
  intro g2 g3
  refine ⟨[0,0], (.q 0 (.q 1 (.q 2 (.q 3 (.q 4 (.q 5 (.q 6 (.q 7 (.q 8 (.q 9 (.q 10 (.q 11 (.q 12 (.q 13 (.q 14 (.q 15 (.one 16 (.q 17 .nil)))))))))))))))))), by kernel_rfl, ?_⟩
  refine ⟨_, ld 0 rfl rfl, ?_⟩
  refine ⟨_, ld 0 rfl rfl, ?_⟩
  refine ⟨by omega, by omega, sa, rfl, ?_⟩
  refine ⟨_, .inl hsa, ?_⟩
  refine ⟨_, ld 0 rfl rfl, ?_⟩
  refine ⟨_, ld 1 rfl rfl, ?_⟩
  refine ⟨by decide, ?_⟩
  intro z hz
  obtain rfl := quo_nat (a := p.off.toNat) (b := 512) (by omega) (by omega) hz
  clear hz
  refine ⟨_, ld 1 rfl rfl, ?_⟩
  refine ⟨_, ld 1 rfl rfl, ?_⟩
  refine ⟨[], _, refSee_okL _ (h.sums.getD h.ix.toNat []) h.sz 512 ((p.off.toNat / 512 : Nat) : Int) p.dt DA dc p.path B2 (by omega) (by omega) (by omega) hdl hdc ((hdr.rh _).rh _) hpl ((hs2.rh _).rh _), ?_⟩
  rintro _ _ ⟨rfl, rfl⟩
  exact ⟨_, Ent.nil _, rfl, rfl⟩

set_option maxRecDepth 100000 in
set_option maxHeartbeats 4000000 in
theorem rCheck_ok (R : Rd) (h : Hd) (B : Value) (l : List RSl) (ha hp : Option Addr) (ca cp : Nat) (p : Pt) (D B2 : Value) (w : WfH h) (hs : Ss R B h.sums) (hl : l.length = partsN h.sz.toNat) (hbs : SlR R 1 (.slice ha l.length ca) l.length (rsB l))
    (ho1 : -9223372036854775808 ≤ p.off) (ho2 : p.off ≤ 9223372036854775807) (hdl : p.dt.length ≤ 1000000000) (hpl : p.path.length ≤ 1000000000) (hd : Bs R D p.dt) (hs2 : Ss R B2 p.path) :
    Fn Tryz.prog 16 [.agg ⟨hdC h B ++ [.slice ha l.length ca, .slice hp l.length cp]⟩, .agg ⟨ptC p D B2⟩] [] R (fun v hq => v = .int .i64 (recvE h (l.map RSl.sl) p) ∧ hq = []) := by
  have hML := maxLen_eq
  refine fn_of_vc mixed tabOk Tryz.func16 rfl (by kernel_rfl) (Nat.le_of_ble_eq_true rfl) ?_
  intro g2 g3
  refine ⟨_, rdOff (o := 0) (n := 2) 1 rfl rfl, rfl, ?_⟩
  refine ⟨_, rdOff (o := 0) (n := 2) 0 rfl rfl, rfl, ?_⟩
  intro e he
  have he : e = true ↔ ([.string ⟨⟨p.st⟩⟩, .int .i64 p.ix] : List Value) = [.string ⟨⟨h.st⟩⟩, .int .i64 h.ix] := he
  have he : e = true ↔ (p.st = h.st ∧ p.ix = h.ix) := by
    rw [he]
    simp only [List.cons.injEq, Value.string.injEq, Value.int.injEq, ByteArray.mk.injEq, Array.mk.injEq, true_and, and_true]
  cases e
  · have hno : ¬ (thereB h.sz p.off = true ∧ p.st = h.st ∧ p.ix = h.ix) := fun hn => by have := he.2 hn.2; cases this
    have hE := recvE_no (h := h) (sls := l.map RSl.sl) (p := p) hno
    rw [hE]
    repeat (first | (refine ⟨fun h => ?_, fun h => ?_⟩; rotate_left 1; (focus (exfalso; (first | (with_reducible (cases h; done)) | (revert h; simp; done) | (revert h; simp; omega) | (revert h; simp [*]; done)))); clear h) | (refine ⟨fun h => ?_, fun h => ?_⟩; (focus (exfalso; (first | (with_reducible (cases h; done)) | (revert h; simp; done) | (revert h; simp; omega) | (revert h; simp [*]; done)))); clear h))
    exact ⟨_, Ent.nil _, rfl, rfl⟩
  have heq := he.1 rfl
  clear he
  repeat (first | (refine ⟨fun h => ?_, fun h => ?_⟩; rotate_left 1; (focus (exfalso; (first | (with_reducible (cases h; done)) | (revert h; simp; done) | (revert h; simp; omega) | (revert h; simp [*]; done)))); clear h) | (refine ⟨fun h => ?_, fun h => ?_⟩; (focus (exfalso; (first | (with_reducible (cases h; done)) | (revert h; simp; done) | (revert h; simp; omega) | (revert h; simp [*]; done)))); clear h))
  refine ⟨_, ld 0 rfl rfl, ?_⟩
  repeat (first | (refine ⟨fun h => ?_, fun h => ?_⟩; rotate_left 1; (focus (exfalso; (first | (with_reducible (cases h; done)) | (revert h; simp; done) | (revert h; simp; omega) | (revert h; simp [*]; done)))); clear h) | (refine ⟨fun h => ?_, fun h => ?_⟩; (focus (exfalso; (first | (with_reducible (cases h; done)) | (revert h; simp; done) | (revert h; simp; omega) | (revert h; simp [*]; done)))); clear h))
  refine ⟨_, ld 1 rfl rfl, ?_⟩
  repeat (first | (refine ⟨fun h => ?_, fun h => ?_⟩; rotate_left 1; (focus (exfalso; (first | (with_reducible (cases h; done)) | (revert h; simp; done) | (revert h; simp; omega) | (revert h; simp [*]; done)))); clear h) | (refine ⟨fun h => ?_, fun h => ?_⟩; (focus (exfalso; (first | (with_reducible (cases h; done)) | (revert h; simp; done) | (revert h; simp; omega) | (revert h; simp [*]; done)))); clear h))
  refine ⟨[], _, There_ok _ p.off h.sz ho1 ho2, ?_⟩
  rintro _ _ ⟨rfl, rfl⟩
  cases ht : thereB h.sz p.off
  · have hE := recvE_no (h := h) (sls := l.map RSl.sl) (p := p) (fun hn => by rw [ht] at hn; cases hn.1)
    rw [hE]
    repeat (first | (refine ⟨fun h => ?_, fun h => ?_⟩; rotate_left 1; (focus (exfalso; (first | (with_reducible (cases h; done)) | (revert h; simp; done) | (revert h; simp; omega) | (revert h; simp [*]; done)))); clear h) | (refine ⟨fun h => ?_, fun h => ?_⟩; (focus (exfalso; (first | (with_reducible (cases h; done)) | (revert h; simp; done) | (revert h; simp; omega) | (revert h; simp [*]; done)))); clear h))
    exact ⟨_, Ent.nil _, rfl, rfl⟩
  have hyes : thereB h.sz p.off = true ∧ p.st = h.st ∧ p.ix = h.ix := ⟨ht, heq⟩
  have hto := of_decide_eq_true ht
  have hlt : p.off.toNat / 512 < l.length := by rw [hl]; unfold partsN; omega
  have hz9 : h.sz ≤ 65536 := w.s1
  obtain ⟨x, hx0⟩ : ∃ x, l[p.off.toNat / 512]? = some x := ⟨_, List.getElem?_eq_getElem hlt⟩
  have hgt := rs_get hx0
  obtain ⟨a1, rfl, hr1⟩ := sl1_at hbs (show (rsB l)[p.off.toNat / 512]? = some (.bool x.b) by unfold rsB; rw [List.getElem?_map, hx0]; rfl)
  repeat (first | (refine ⟨fun h => ?_, fun h => ?_⟩; rotate_left 1; (focus (exfalso; (first | (with_reducible (cases h; done)) | (revert h; simp; done) | (revert h; simp; omega) | (revert h; simp [*]; done)))); clear h) | (refine ⟨fun h => ?_, fun h => ?_⟩; (focus (exfalso; (first | (with_reducible (cases h; done)) | (revert h; simp; done) | (revert h; simp; omega) | (revert h; simp [*]; done)))); clear h))
  refine ⟨_, ld 0 rfl rfl, ?_⟩
  refine ⟨_, ld 1 rfl rfl, ?_⟩
  refine ⟨by decide, ?_⟩
  intro z hz
  obtain rfl := quo_nat (a := p.off.toNat) (b := 512) (by omega) (by omega) hz
  clear hz
  refine ⟨by omega, by omega, a1, rfl, _, .inl hr1, ?_⟩
  cases hxb : x.b with
  | true =>
    rw [RSl.sl_yes hxb] at hgt
    have hE := recvE_there (h := h) (sls := l.map RSl.sl) (p := p) hyes hgt
    rw [hE]
    repeat (first | (refine ⟨fun h => ?_, fun h => ?_⟩; rotate_left 1; (focus (exfalso; (first | (with_reducible (cases h; done)) | (revert h; simp; done) | (revert h; simp; omega) | (revert h; simp [*]; done)))); clear h) | (refine ⟨fun h => ?_, fun h => ?_⟩; (focus (exfalso; (first | (with_reducible (cases h; done)) | (revert h; simp; done) | (revert h; simp; omega) | (revert h; simp [*]; done)))); clear h))
    exact ⟨_, Ent.nil _, rfl, rfl⟩
  | false =>
    rw [RSl.sl_no hxb] at hgt
    have hE := recvE_see (h := h) (sls := l.map RSl.sl) (p := p) hyes hgt
    rw [hE]
    repeat (first | (refine ⟨fun h => ?_, fun h => ?_⟩; rotate_left 1; (focus (exfalso; (first | (with_reducible (cases h; done)) | (revert h; simp; done) | (revert h; simp; omega) | (revert h; simp [*]; done)))); clear h) | (refine ⟨fun h => ?_, fun h => ?_⟩; (focus (exfalso; (first | (with_reducible (cases h; done)) | (revert h; simp; done) | (revert h; simp; omega) | (revert h; simp [*]; done)))); clear h))
    refine ⟨_, rdOff (o := 0) (n := 4) 0 rfl rfl, rfl, ?_⟩
    refine ⟨_, rdOff (o := 0) (n := 5) 1 rfl rfl, rfl, ?_⟩
    refine ⟨[], _, rPartFits_ok _ h p B D B2 w (hs.rh _) ht hdl hpl (hd.rh _) (hs2.rh _), ?_⟩
    rintro _ _ ⟨rfl, rfl⟩
    cases hsee : seeB (h.sums.getD h.ix.toNat []) h.sz 512 ((p.off.toNat / 512 : Nat) : Int) p.dt p.path
    · rw [if_neg (by decide)]
      repeat (first | (refine ⟨fun h => ?_, fun h => ?_⟩; rotate_left 1; (focus (exfalso; (first | (with_reducible (cases h; done)) | (revert h; simp; done) | (revert h; simp; omega) | (revert h; simp [*]; done)))); clear h) | (refine ⟨fun h => ?_, fun h => ?_⟩; (focus (exfalso; (first | (with_reducible (cases h; done)) | (revert h; simp; done) | (revert h; simp; omega) | (revert h; simp [*]; done)))); clear h))
      exact ⟨_, Ent.nil _, rfl, rfl⟩
    · rw [if_pos rfl]
      repeat (first | (refine ⟨fun h => ?_, fun h => ?_⟩; rotate_left 1; (focus (exfalso; (first | (with_reducible (cases h; done)) | (revert h; simp; done) | (revert h; simp; omega) | (revert h; simp [*]; done)))); clear h) | (refine ⟨fun h => ?_, fun h => ?_⟩; (focus (exfalso; (first | (with_reducible (cases h; done)) | (revert h; simp; done) | (revert h; simp; omega) | (revert h; simp [*]; done)))); clear h))
      exact ⟨_, Ent.nil _, rfl, rfl⟩

end Go.Proofs.YtnifppnpplgghaaGreatDoor
