/-
  Transfer: the reference's receiver beside the program's, plain.
-/
import Derived.Test.YtnifppnpplgghaaGreatDoorTsd
import Derived.Test.YtnifppnpplgghaaGreatDoorTrw
import Derived.Test.YtnifppnpplgghaaGreatDoorTrn
namespace Go.Proofs.YtnifppnpplgghaaGreatDoor
open Go Go.RowKit
set_option linter.unusedVariables false
set_option linter.unusedSimpArgs false

structure PrtOk (R : Rd) (x : RSl) : Prop where
  d : Bs R x.D x.p.dt
  s : Ss R x.B x.p.path
  o : I64 x.p.off
theorem SeenV.partsV {R : Rd} {v : Value} (h : SeenV R (.sl 5 PtShp) v) : ∃ (l : List RSl) (A : Option Addr) (cap : Nat), v = .slice A l.length cap ∧ SlR R 5 (.slice A l.length cap) l.length (rsC l) ∧ l.length ≤ maxLen ∧ ∀ x ∈ l, PrtOk R x := by
  obtain ⟨l, hok, hl, hs⟩ := h.slice RSl.cells (PrtOk R) (fun _ _ => rfl) fun xs _ hx => by
    obtain ⟨p, D, B, e, h1, h2, _, h4, _, _⟩ := Pt.of hx
    exact ⟨⟨false, p, D, B⟩, ⟨h1, h2, h4⟩, e⟩
  have hs0 := hs
  obtain ⟨_, A, cap, rfl, _⟩ := hs
  exact ⟨l, A, cap, rfl, hs0, hl, hok⟩
theorem rsB_set (l : List RSl) (k : Nat) (x : RSl) : rsB (l.set k x) = (rsB l).set k (.bool x.b) := List.map_set
theorem rsC_length (l : List RSl) : (rsC l).length = l.length * 5 := flat_len fun _ _ => rfl
theorem rsC_set {l : List RSl} {k : Nat} (x : RSl) (hk : k < l.length) : setRange (rsC l) (k * 5) x.cells = rsC (l.set k x) := by
  obtain ⟨a, y, b, rfl, rfl⟩ : ∃ a y b, l = a ++ y :: b ∧ k = a.length :=
    ⟨l.take k, l[k], l.drop (k + 1), by rw [← List.drop_eq_getElem_cons hk, List.take_append_drop], by rw [List.length_take]; omega⟩
  rw [List.set_append_right _ _ (Nat.le_refl _), Nat.sub_self, List.set_cons_zero]
  have e : ∀ z, rsC (a ++ z :: b) = rsC a ++ (z.cells ++ rsC b) := fun z => by unfold rsC; rw [List.flatMap_append, List.flatMap_cons]
  rw [e, e, ← rsC_length a, setRange_mid _ _ _ (by rw [List.length_append]; show 5 ≤ 5 + _; omega)]
  rfl
structure RefI (R : Rd) (h : Hd) (l : List RSl) : Prop where
  gd : GoodR h (l.map RSl.sl)
  ok : ∀ (i : Nat) x, l[i]? = some x → x.b = true → x.p = partOf h i (x.p.dt, x.p.path) ∧ WfP x.p ∧ Bs R x.D x.p.dt ∧ Ss R x.B x.p.path
theorem RefI.len {R : Rd} {h : Hd} {l : List RSl} (r : RefI R h l) : l.length = partsN h.sz.toNat := by have := r.gd.len; rwa [List.length_map] at this
theorem RefI.le {R : Rd} {h : Hd} {l : List RSl} (r : RefI R h l) : l.length ≤ 128 := by have := r.gd.wf.s1; rw [r.len]; unfold partsN; omega
theorem RefI.wp {R : Rd} {h : Hd} {l : List RSl} (r : RefI R h l) : ∀ x ∈ l, x.b = true → WfP x.p ∧ Bs R x.D x.p.dt ∧ Ss R x.B x.p.path := fun x hx hb => by
  obtain ⟨i, hi⟩ := List.getElem?_of_mem hx
  exact (r.ok i x hi hb).2
theorem RefI.pres {R : Rd} {h : Hd} {l : List RSl} (r : RefI R h l) : rsP l = Go.Proofs.YtnifppnpplgghaaGreatDoor.pres h (l.map RSl.sl) := by
  have key : ∀ k, k ≤ l.length → rsP (l.take k) = presK h (l.map RSl.sl) k := fun k => by
    induction k with
    | zero => intro _; rfl
    | succ k ih =>
      intro hk
      have hx : l[k]? = some l[k] := List.getElem?_eq_getElem hk
      generalize l[k] = x at hx
      have hg := rs_get hx
      cases hb : x.b with
      | false => rw [rsP_no hx hb, presK_none (by rw [hg, RSl.sl_no hb]), ih (by omega)]
      | true => rw [rsP_yes hx hb, presK_some (by rw [hg, RSl.sl_yes hb]), ih (by omega), ← (r.ok k x hx hb).1]
  have := key l.length (Nat.le_refl _)
  rw [List.take_length] at this
  rw [this]
  unfold Go.Proofs.YtnifppnpplgghaaGreatDoor.pres
  rw [List.length_map]
def rs0 (n : Nat) : List RSl := List.replicate n ⟨false, Pt0, .slice .none 0 0, .slice .none 0 0⟩
theorem rs0_sl (n : Nat) : (rs0 n).map RSl.sl = List.replicate n .none := by unfold rs0; rw [List.map_replicate]; rfl
theorem rs0_B (n : Nat) : repl [.bool false] n = rsB (rs0 n) := by
  induction n with
  | zero => rfl
  | succ n ih => rw [show rs0 (n + 1) = ⟨false, Pt0, .slice .none 0 0, .slice .none 0 0⟩ :: rs0 n from List.replicate_succ, show repl [Value.bool false] (n + 1) = [.bool false] ++ repl [.bool false] n from rfl, ih]; rfl
theorem rs0_C (n : Nat) : repl pt0C n = rsC (rs0 n) := by
  induction n with
  | zero => rfl
  | succ n ih => rw [show rs0 (n + 1) = ⟨false, Pt0, .slice .none 0 0, .slice .none 0 0⟩ :: rs0 n from List.replicate_succ, show repl pt0C (n + 1) = pt0C ++ repl pt0C n from rfl, ih]; rfl
theorem RefI.new {R : Rd} {h : Hd} (w : WfH h) (hr : rootOf h.sums = h.st) : RefI R h (rs0 (partsN h.sz.toNat)) := by
  refine ⟨by rw [rs0_sl]; exact GoodR.new w hr, fun i x hx hb => ?_⟩
  have := (List.mem_replicate.1 (List.mem_of_getElem? hx)).2
  rw [this] at hb
  cases hb
theorem RefI.step {R : Rd} {h : Hd} {l : List RSl} (r : RefI R h l) {x : RSl} (hd : Bs R x.D x.p.dt) (hs : Ss R x.B x.p.path) (e : recvE h (l.map RSl.sl) x.p = 0) :
    x.p.off.toNat / 512 < l.length ∧ RefI R h (l.set (x.p.off.toNat / 512) ⟨true, x.p, x.D, x.B⟩) ∧ (l.set (x.p.off.toNat / 512) ⟨true, x.p, x.D, x.B⟩).map RSl.sl = recvS h (l.map RSl.sl) x.p := by
  obtain ⟨h1, h2, h3, h4, h5⟩ := recvE_zero e
  have hlt := there_lt r.gd h1
  rw [List.length_map] at hlt
  have hm : (l.set (x.p.off.toNat / 512) ⟨true, x.p, x.D, x.B⟩).map RSl.sl = recvS h (l.map RSl.sl) x.p := by
    rw [recvS_yes e, List.map_set]; rfl
  have gd2 := r.gd.recv x.p
  have hw : WfP x.p := by
    have hget : (recvS h (l.map RSl.sl) x.p)[x.p.off.toNat / 512]? = some (some (x.p.dt, x.p.path)) := by
      rw [recvS_yes e, List.getElem?_set, if_pos rfl]
      simp only [List.length_map, hlt, if_pos]
    have := see_wf r.gd.wf (i := x.p.off.toNat / 512) (x := (x.p.dt, x.p.path)) (gd2.see _ x.p.dt x.p.path hget)
    rw [h5]; exact this
  refine ⟨hlt, ⟨by rw [hm]; exact gd2, fun i y hy hb => ?_⟩, hm⟩
  rw [List.getElem?_set] at hy
  split at hy
  · rename_i hi
    cases hy
    rw [← hi]
    exact ⟨h5, hw, hd, hs⟩
  · exact r.ok i y hy hb

end Go.Proofs.YtnifppnpplgghaaGreatDoor
