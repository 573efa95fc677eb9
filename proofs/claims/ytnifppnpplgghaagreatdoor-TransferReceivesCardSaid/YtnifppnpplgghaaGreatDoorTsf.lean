/-
  Transfer: the law TransferReceives.
-/
import Derived.Test.YtnifppnpplgghaaGreatDoorTse
namespace Go.Proofs.YtnifppnpplgghaaGreatDoor
open Go Go.RowKit
set_option linter.unusedVariables false
set_option linter.unusedSimpArgs false

theorem str5 {gd k n c : Nat} {e : TypeId} {l : List RSl} {fz : Nat × Nat} {x : RSl} {K : HA → Prop} (h1 : k < l.length) (hK : K (.row (some ⟨gd, 0, .none⟩) n c e 5 (rsC (l.set k x)) fz)) :
    stE (.row (some ⟨gd, 0, .none⟩) n c e 5 (rsC l) fz) (addA ⟨gd, 0, .none⟩ (Int.toNat (k : Int) * 5)) x.cells K := by
  rw [show Int.toNat (k : Int) * 5 = k * 5 by simp, ← addA_eq, add_zero_addr]
  exact ⟨rfl, rfl, by rw [rsC_length]; show k * 5 + 5 ≤ _; omega, by rw [rsC_set x h1]; exact hK⟩
set_option maxRecDepth 8000 in
theorem dat_le {R : Rd} {h : Hd} {l : List RSl} (r : RefI R h l) : (haveB (l.map RSl.sl)).length ≤ 65536 := by
  have key : ∀ k, k ≤ l.length → (datK l k).length ≤ k * 512 := fun k => by
    induction k with
    | zero => intro _; exact Nat.le_refl _
    | succ k ih =>
      intro hk
      have hx : l[k]? = some l[k] := List.getElem?_eq_getElem hk
      generalize l[k] = x at hx
      rw [datK_succ hx, List.length_append]
      have := ih (by omega)
      split
      · rename_i hb
        have := (r.ok k x hx hb).2.1.d1
        omega
      · show _ + 0 ≤ _; omega
  have h1 := key l.length (Nat.le_refl _)
  have h2 := r.le
  have e : datK l l.length = haveB (l.map RSl.sl) := by unfold datK haveB; rw [List.take_length]
  rw [e] at h1
  omega
theorem rData_okC (R : Rd) (h : Hd) (B : Value) (l : List RSl) (ha hp : Option Addr) (ca cp : Nat) (hl : l.length ≤ 128) (hbs : SlR R 1 (.slice ha l.length ca) l.length (rsB l)) (hcs : SlR R 5 (.slice hp l.length cp) l.length (rsC l))
    (wp : ∀ x ∈ l, x.b = true → x.p.dt.length ≤ 512 ∧ Bs R x.D x.p.dt) :
    Fn Tryz.prog 23 [.agg ⟨hdC h B ++ [.slice ha l.length ca, .slice hp l.length cp]⟩] [] R (OwnBl · (haveB (l.map RSl.sl)) ·) := by
  refine Fn.post (rData_ok R h B l ha hp ca cp hl hbs hcs wp) ?_
  rintro _ _ w ⟨A', cap', rfl, rfl, hg⟩ o
  exact ⟨A', cap', rfl, rfl, hg, (row_cap o 0 rfl).1⟩
set_option maxRecDepth 100000 in
set_option maxHeartbeats 16000000 in
theorem TransferReceives_law (R : Rd) (hG : ShaG R) (v0 v1 : Value) (s0 : SeenV R HdShp v0) (s1 : SeenV R (.sl 5 PtShp) v1) : Fn Tryz.prog 3 [v0, v1] [] R (fun v _ => v = .bool true) := by
  have hML := maxLen_eq
  obtain ⟨h, B, rfl, hs, hix, hsz, hln, _⟩ := s0.hdV
  obtain ⟨prs, PA, pcap, rfl, hprs, hpl, hpok⟩ := s1.partsV
  have hs' := hs
  obtain ⟨SA, scap, rfl, hscc, hsr⟩ := hs'
  refine fn_of_vc mixed tabOk Tryz.func3 rfl (by kernel_rfl) (Nat.le_of_ble_eq_true rfl) ?_
  intro gb
  refine ⟨_, ld 0 rfl rfl, ?_⟩
  refine ⟨rfl, fun g1 => ?_⟩
  refine ⟨[], _, few42_ok _ .none (some ⟨g1, 0, .none⟩) 0 0 1 SA h.sums.length scap (SlR.own 1 rfl rfl (.inr ⟨g1, rfl⟩)), ?_⟩
  rintro _ _ ⟨rfl, rfl⟩
  by_cases hf : h.sums.length ≤ 20 ∧ 0 ≤ 2600
  case neg =>
    rw [decide_eq_false hf]
    repeat (first | (refine ⟨fun h => ?_, fun h => ?_⟩; rotate_left 1; (focus (exfalso; (first | (with_reducible (cases h; done)) | (revert h; simp; done) | (revert h; simp; omega) | (revert h; simp [*]; done)))); clear h) | (refine ⟨fun h => ?_, fun h => ?_⟩; (focus (exfalso; (first | (with_reducible (cases h; done)) | (revert h; simp; done) | (revert h; simp; omega) | (revert h; simp [*]; done)))); clear h))
    refine ⟨[], _, awake42_ok _ (hG.rh _), ?_⟩
    rintro _ _ ⟨rfl, rfl⟩
    repeat (first | (refine ⟨fun h => ?_, fun h => ?_⟩; rotate_left 1; (focus (exfalso; (first | (with_reducible (cases h; done)) | (revert h; simp; done) | (revert h; simp; omega) | (revert h; simp [*]; done)))); clear h) | (refine ⟨fun h => ?_, fun h => ?_⟩; (focus (exfalso; (first | (with_reducible (cases h; done)) | (revert h; simp; done) | (revert h; simp; omega) | (revert h; simp [*]; done)))); clear h))
    exact ⟨_, Ent.nil _, rfl⟩
  rw [decide_eq_true hf]
  by_cases h12 : (12 : Int) < prs.length
  · repeat (first | (refine ⟨fun h => ?_, fun h => ?_⟩; rotate_left 1; (focus (exfalso; (first | (with_reducible (cases h; done)) | (revert h; simp; done) | (revert h; simp; omega) | (revert h; simp [*]; done)))); clear h) | (refine ⟨fun h => ?_, fun h => ?_⟩; (focus (exfalso; (first | (with_reducible (cases h; done)) | (revert h; simp; done) | (revert h; simp; omega) | (revert h; simp [*]; done)))); clear h))
    refine ⟨[], _, awake42_ok _ (hG.rh _), ?_⟩
    rintro _ _ ⟨rfl, rfl⟩
    repeat (first | (refine ⟨fun h => ?_, fun h => ?_⟩; rotate_left 1; (focus (exfalso; (first | (with_reducible (cases h; done)) | (revert h; simp; done) | (revert h; simp; omega) | (revert h; simp [*]; done)))); clear h) | (refine ⟨fun h => ?_, fun h => ?_⟩; (focus (exfalso; (first | (with_reducible (cases h; done)) | (revert h; simp; done) | (revert h; simp; omega) | (revert h; simp [*]; done)))); clear h))
    exact ⟨_, Ent.nil _, rfl⟩
  repeat (first | (refine ⟨fun h => ?_, fun h => ?_⟩; rotate_left 1; (focus (exfalso; (first | (with_reducible (cases h; done)) | (revert h; simp; done) | (revert h; simp; omega) | (revert h; simp [*]; done)))); clear h) | (refine ⟨fun h => ?_, fun h => ?_⟩; (focus (exfalso; (first | (with_reducible (cases h; done)) | (revert h; simp; done) | (revert h; simp; omega) | (revert h; simp [*]; done)))); clear h))
  refine ⟨_, ld 0 rfl rfl, ?_⟩
  by_cases hbig : 4000 < h.sz
  case pos =>
    repeat (first | (refine ⟨fun h => ?_, fun h => ?_⟩; rotate_left 1; (focus (exfalso; (first | (with_reducible (cases h; done)) | (revert h; simp; done) | (revert h; simp; omega) | (revert h; simp [*]; done)))); clear h) | (refine ⟨fun h => ?_, fun h => ?_⟩; (focus (exfalso; (first | (with_reducible (cases h; done)) | (revert h; simp; done) | (revert h; simp; omega) | (revert h; simp [*]; done)))); clear h))
    refine ⟨_, ld 0 rfl rfl, ?_⟩
    by_cases h65 : h.sz ≤ 65536
    · repeat (first | (refine ⟨fun h => ?_, fun h => ?_⟩; rotate_left 1; (focus (exfalso; (first | (with_reducible (cases h; done)) | (revert h; simp; done) | (revert h; simp; omega) | (revert h; simp [*]; done)))); clear h) | (refine ⟨fun h => ?_, fun h => ?_⟩; (focus (exfalso; (first | (with_reducible (cases h; done)) | (revert h; simp; done) | (revert h; simp; omega) | (revert h; simp [*]; done)))); clear h))
      refine ⟨[], _, awake42_ok _ (hG.rh _), ?_⟩
      rintro _ _ ⟨rfl, rfl⟩
      repeat (first | (refine ⟨fun h => ?_, fun h => ?_⟩; rotate_left 1; (focus (exfalso; (first | (with_reducible (cases h; done)) | (revert h; simp; done) | (revert h; simp; omega) | (revert h; simp [*]; done)))); clear h) | (refine ⟨fun h => ?_, fun h => ?_⟩; (focus (exfalso; (first | (with_reducible (cases h; done)) | (revert h; simp; done) | (revert h; simp; omega) | (revert h; simp [*]; done)))); clear h))
      exact ⟨_, Ent.nil _, rfl⟩
    repeat (first | (refine ⟨fun h => ?_, fun h => ?_⟩; rotate_left 1; (focus (exfalso; (first | (with_reducible (cases h; done)) | (revert h; simp; done) | (revert h; simp; omega) | (revert h; simp [*]; done)))); clear h) | (refine ⟨fun h => ?_, fun h => ?_⟩; (focus (exfalso; (first | (with_reducible (cases h; done)) | (revert h; simp; done) | (revert h; simp; omega) | (revert h; simp [*]; done)))); clear h))
    have hnw : ¬ WfH h := fun w => h65 w.s1
    refine ⟨_, rdOff (o := 0) (n := 4) 0 rfl rfl, rfl, ?_⟩
    refine ⟨[], _, NewReceiver_ok _ (hG.rh _) h _ (hs.rh _), ?_⟩
    rintro _ _ (⟨_, rfl, rfl⟩ | ⟨hwf, _⟩ | ⟨hwf, _⟩)
    · skip
      repeat (first | (refine ⟨fun h => ?_, fun h => ?_⟩; rotate_left 1; (focus (exfalso; (first | (with_reducible (cases h; done)) | (revert h; simp; done) | (revert h; simp; omega) | (revert h; simp [*]; done)))); clear h) | (refine ⟨fun h => ?_, fun h => ?_⟩; (focus (exfalso; (first | (with_reducible (cases h; done)) | (revert h; simp; done) | (revert h; simp; omega) | (revert h; simp [*]; done)))); clear h))
      refine ⟨_, rdOff (o := 0) (n := 4) 0 rfl rfl, rfl, ?_⟩
      intro g7
      refine ⟨rfl, rfl, 2, rfl, rfl, Nat.le_of_ble_eq_true rfl, ?_⟩
      refine ⟨_, rdOff (o := 0) (n := 4) 2 rfl rfl, rfl, ?_⟩
      refine ⟨[], _, Formed_ok _ h _ (hs.rh _), ?_⟩
      rintro _ _ ⟨rfl, rfl⟩
      rw [decide_eq_false hnw]
      repeat (first | (refine ⟨fun h => ?_, fun h => ?_⟩; rotate_left 1; (focus (exfalso; (first | (with_reducible (cases h; done)) | (revert h; simp; done) | (revert h; simp; omega) | (revert h; simp [*]; done)))); clear h) | (refine ⟨fun h => ?_, fun h => ?_⟩; (focus (exfalso; (first | (with_reducible (cases h; done)) | (revert h; simp; done) | (revert h; simp; omega) | (revert h; simp [*]; done)))); clear h))
      refine ⟨_, rdOff (o := 0) (n := 4) 2 rfl rfl, rfl, ?_⟩
      refine ⟨[], _, Formed_ok _ h _ (hs.rh _), ?_⟩
      rintro _ _ ⟨rfl, rfl⟩
      rw [decide_eq_false hnw]
      repeat (first | (refine ⟨fun h => ?_, fun h => ?_⟩; rotate_left 1; (focus (exfalso; (first | (with_reducible (cases h; done)) | (revert h; simp; done) | (revert h; simp; omega) | (revert h; simp [*]; done)))); clear h) | (refine ⟨fun h => ?_, fun h => ?_⟩; (focus (exfalso; (first | (with_reducible (cases h; done)) | (revert h; simp; done) | (revert h; simp; omega) | (revert h; simp [*]; done)))); clear h))
      refine ⟨[], _, awake42_ok _ (hG.rh _), ?_⟩
      rintro _ _ ⟨rfl, rfl⟩
      repeat (first | (refine ⟨fun h => ?_, fun h => ?_⟩; rotate_left 1; (focus (exfalso; (first | (with_reducible (cases h; done)) | (revert h; simp; done) | (revert h; simp; omega) | (revert h; simp [*]; done)))); clear h) | (refine ⟨fun h => ?_, fun h => ?_⟩; (focus (exfalso; (first | (with_reducible (cases h; done)) | (revert h; simp; done) | (revert h; simp; omega) | (revert h; simp [*]; done)))); clear h))
      exact ⟨_, Ent.nil _, rfl⟩
    · exact absurd hwf hnw
    · exact absurd hwf hnw
  repeat (first | (refine ⟨fun h => ?_, fun h => ?_⟩; rotate_left 1; (focus (exfalso; (first | (with_reducible (cases h; done)) | (revert h; simp; done) | (revert h; simp; omega) | (revert h; simp [*]; done)))); clear h) | (refine ⟨fun h => ?_, fun h => ?_⟩; (focus (exfalso; (first | (with_reducible (cases h; done)) | (revert h; simp; done) | (revert h; simp; omega) | (revert h; simp [*]; done)))); clear h))
  refine ⟨_, rdOff (o := 0) (n := 4) 0 rfl rfl, rfl, ?_⟩
  refine ⟨[], _, NewReceiver_ok _ (hG.rh _) h _ (hs.rh _), ?_⟩
  rintro _ _ (⟨hnw, rfl, rfl⟩ | ⟨w, hroot, rfl, rfl⟩ | ⟨w, hroot, gr, rfl, C, cc, gdd, gp, sl, hgC, hcC, okS, hpl0, rfl⟩)
  · skip
    repeat (first | (refine ⟨fun h => ?_, fun h => ?_⟩; rotate_left 1; (focus (exfalso; (first | (with_reducible (cases h; done)) | (revert h; simp; done) | (revert h; simp; omega) | (revert h; simp [*]; done)))); clear h) | (refine ⟨fun h => ?_, fun h => ?_⟩; (focus (exfalso; (first | (with_reducible (cases h; done)) | (revert h; simp; done) | (revert h; simp; omega) | (revert h; simp [*]; done)))); clear h))
    refine ⟨_, rdOff (o := 0) (n := 4) 0 rfl rfl, rfl, ?_⟩
    intro g7
    refine ⟨rfl, rfl, 2, rfl, rfl, Nat.le_of_ble_eq_true rfl, ?_⟩
    refine ⟨_, rdOff (o := 0) (n := 4) 2 rfl rfl, rfl, ?_⟩
    refine ⟨[], _, Formed_ok _ h _ (hs.rh _), ?_⟩
    rintro _ _ ⟨rfl, rfl⟩
    rw [decide_eq_false hnw]
    repeat (first | (refine ⟨fun h => ?_, fun h => ?_⟩; rotate_left 1; (focus (exfalso; (first | (with_reducible (cases h; done)) | (revert h; simp; done) | (revert h; simp; omega) | (revert h; simp [*]; done)))); clear h) | (refine ⟨fun h => ?_, fun h => ?_⟩; (focus (exfalso; (first | (with_reducible (cases h; done)) | (revert h; simp; done) | (revert h; simp; omega) | (revert h; simp [*]; done)))); clear h))
    refine ⟨_, rdOff (o := 0) (n := 4) 2 rfl rfl, rfl, ?_⟩
    refine ⟨[], _, Formed_ok _ h _ (hs.rh _), ?_⟩
    rintro _ _ ⟨rfl, rfl⟩
    rw [decide_eq_false hnw]
    repeat (first | (refine ⟨fun h => ?_, fun h => ?_⟩; rotate_left 1; (focus (exfalso; (first | (with_reducible (cases h; done)) | (revert h; simp; done) | (revert h; simp; omega) | (revert h; simp [*]; done)))); clear h) | (refine ⟨fun h => ?_, fun h => ?_⟩; (focus (exfalso; (first | (with_reducible (cases h; done)) | (revert h; simp; done) | (revert h; simp; omega) | (revert h; simp [*]; done)))); clear h))
    refine ⟨[], _, awake42_ok _ (hG.rh _), ?_⟩
    rintro _ _ ⟨rfl, rfl⟩
    repeat (first | (refine ⟨fun h => ?_, fun h => ?_⟩; rotate_left 1; (focus (exfalso; (first | (with_reducible (cases h; done)) | (revert h; simp; done) | (revert h; simp; omega) | (revert h; simp [*]; done)))); clear h) | (refine ⟨fun h => ?_, fun h => ?_⟩; (focus (exfalso; (first | (with_reducible (cases h; done)) | (revert h; simp; done) | (revert h; simp; omega) | (revert h; simp [*]; done)))); clear h))
    exact ⟨_, Ent.nil _, rfl⟩
  · repeat (first | (refine ⟨fun h => ?_, fun h => ?_⟩; rotate_left 1; (focus (exfalso; (first | (with_reducible (cases h; done)) | (revert h; simp; done) | (revert h; simp; omega) | (revert h; simp [*]; done)))); clear h) | (refine ⟨fun h => ?_, fun h => ?_⟩; (focus (exfalso; (first | (with_reducible (cases h; done)) | (revert h; simp; done) | (revert h; simp; omega) | (revert h; simp [*]; done)))); clear h))
    refine ⟨_, rdOff (o := 0) (n := 4) 0 rfl rfl, rfl, ?_⟩
    intro g7
    refine ⟨rfl, rfl, 2, rfl, rfl, Nat.le_of_ble_eq_true rfl, ?_⟩
    refine ⟨_, rdOff (o := 0) (n := 4) 2 rfl rfl, rfl, ?_⟩
    refine ⟨[], _, Formed_ok _ h _ (hs.rh _), ?_⟩
    rintro _ _ ⟨rfl, rfl⟩
    rw [decide_eq_true w]
    repeat (first | (refine ⟨fun h => ?_, fun h => ?_⟩; rotate_left 1; (focus (exfalso; (first | (with_reducible (cases h; done)) | (revert h; simp; done) | (revert h; simp; omega) | (revert h; simp [*]; done)))); clear h) | (refine ⟨fun h => ?_, fun h => ?_⟩; (focus (exfalso; (first | (with_reducible (cases h; done)) | (revert h; simp; done) | (revert h; simp; omega) | (revert h; simp [*]; done)))); clear h))
    refine ⟨_, rdOff (o := 0) (n := 4) 2 rfl rfl, rfl, ?_⟩
    repeat (first | (refine ⟨fun h => ?_, fun h => ?_⟩; rotate_left 1; (focus (exfalso; (first | (with_reducible (cases h; done)) | (revert h; simp; done) | (revert h; simp; omega) | (revert h; simp [*]; done)))); clear h) | (refine ⟨fun h => ?_, fun h => ?_⟩; (focus (exfalso; (first | (with_reducible (cases h; done)) | (revert h; simp; done) | (revert h; simp; omega) | (revert h; simp [*]; done)))); clear h))
    refine ⟨[], _, Fits_ok _ h _ (hs.rh _), ?_⟩
    rintro _ _ ⟨rfl, rfl⟩
    rw [decide_eq_false (show ¬ FitH h from fun f => hroot f.2)]
    repeat (first | (refine ⟨fun h => ?_, fun h => ?_⟩; rotate_left 1; (focus (exfalso; (first | (with_reducible (cases h; done)) | (revert h; simp; done) | (revert h; simp; omega) | (revert h; simp [*]; done)))); clear h) | (refine ⟨fun h => ?_, fun h => ?_⟩; (focus (exfalso; (first | (with_reducible (cases h; done)) | (revert h; simp; done) | (revert h; simp; omega) | (revert h; simp [*]; done)))); clear h))
    refine ⟨_, rdOff (o := 0) (n := 4) 2 rfl rfl, rfl, ?_⟩
    refine ⟨[], _, Formed_ok _ h _ (hs.rh _), ?_⟩
    rintro _ _ ⟨rfl, rfl⟩
    rw [decide_eq_true w]
    repeat (first | (refine ⟨fun h => ?_, fun h => ?_⟩; rotate_left 1; (focus (exfalso; (first | (with_reducible (cases h; done)) | (revert h; simp; done) | (revert h; simp; omega) | (revert h; simp [*]; done)))); clear h) | (refine ⟨fun h => ?_, fun h => ?_⟩; (focus (exfalso; (first | (with_reducible (cases h; done)) | (revert h; simp; done) | (revert h; simp; omega) | (revert h; simp [*]; done)))); clear h))
    refine ⟨[], _, awake42_ok _ (hG.rh _), ?_⟩
    rintro _ _ ⟨rfl, rfl⟩
    repeat (first | (refine ⟨fun h => ?_, fun h => ?_⟩; rotate_left 1; (focus (exfalso; (first | (with_reducible (cases h; done)) | (revert h; simp; done) | (revert h; simp; omega) | (revert h; simp [*]; done)))); clear h) | (refine ⟨fun h => ?_, fun h => ?_⟩; (focus (exfalso; (first | (with_reducible (cases h; done)) | (revert h; simp; done) | (revert h; simp; omega) | (revert h; simp [*]; done)))); clear h))
    exact ⟨_, Ent.nil _, rfl⟩
  repeat (first | (refine ⟨fun h => ?_, fun h => ?_⟩; rotate_left 1; (focus (exfalso; (first | (with_reducible (cases h; done)) | (revert h; simp; done) | (revert h; simp; omega) | (revert h; simp [*]; done)))); clear h) | (refine ⟨fun h => ?_, fun h => ?_⟩; (focus (exfalso; (first | (with_reducible (cases h; done)) | (revert h; simp; done) | (revert h; simp; omega) | (revert h; simp [*]; done)))); clear h))
  refine ⟨_, rdOff (o := 0) (n := 4) 0 rfl rfl, rfl, ?_⟩
  intro g7
  refine ⟨rfl, rfl, 7, rfl, rfl, Nat.le_of_ble_eq_true rfl, ?_⟩
  refine ⟨_, rdOff (o := 0) (n := 4) 7 rfl rfl, rfl, ?_⟩
  refine ⟨[], _, Formed_ok _ h _ (hs.rh _), ?_⟩
  rintro _ _ ⟨rfl, rfl⟩
  rw [decide_eq_true w]
  repeat (first | (refine ⟨fun h => ?_, fun h => ?_⟩; rotate_left 1; (focus (exfalso; (first | (with_reducible (cases h; done)) | (revert h; simp; done) | (revert h; simp; omega) | (revert h; simp [*]; done)))); clear h) | (refine ⟨fun h => ?_, fun h => ?_⟩; (focus (exfalso; (first | (with_reducible (cases h; done)) | (revert h; simp; done) | (revert h; simp; omega) | (revert h; simp [*]; done)))); clear h))
  refine ⟨_, rdOff (o := 0) (n := 4) 7 rfl rfl, rfl, ?_⟩
  repeat (first | (refine ⟨fun h => ?_, fun h => ?_⟩; rotate_left 1; (focus (exfalso; (first | (with_reducible (cases h; done)) | (revert h; simp; done) | (revert h; simp; omega) | (revert h; simp [*]; done)))); clear h) | (refine ⟨fun h => ?_, fun h => ?_⟩; (focus (exfalso; (first | (with_reducible (cases h; done)) | (revert h; simp; done) | (revert h; simp; omega) | (revert h; simp [*]; done)))); clear h))
  refine ⟨[], _, Fits_ok _ h _ (hs.rh _), ?_⟩
  rintro _ _ ⟨rfl, rfl⟩
  rw [decide_eq_true (show FitH h from ⟨w, hroot⟩)]
  repeat (first | (refine ⟨fun h => ?_, fun h => ?_⟩; rotate_left 1; (focus (exfalso; (first | (with_reducible (cases h; done)) | (revert h; simp; done) | (revert h; simp; omega) | (revert h; simp [*]; done)))); clear h) | (refine ⟨fun h => ?_, fun h => ?_⟩; (focus (exfalso; (first | (with_reducible (cases h; done)) | (revert h; simp; done) | (revert h; simp; omega) | (revert h; simp [*]; done)))); clear h))
  refine ⟨_, rdOff (o := 0) (n := 4) 7 rfl rfl, rfl, ?_⟩
  have w0 := w.s0
  have w1 := w.s1
  have hsz0 : h.sz = ((h.sz.toNat : Nat) : Int) := by omega
  refine ⟨[], _, rNew_ok _ h _ h.sz.toNat ⟨_, _, _, rfl⟩ hsz0 (by omega) (by omega), ?_⟩
  rintro _ _ ⟨ga, gq, rfl, rfl⟩
  intro g9
  refine ⟨rfl, rfl, 10, rfl, rfl, Nat.le_of_ble_eq_true rfl, ?_⟩
  rw [rs0_B, rs0_C]
  have hr0 : RefI R h (rs0 (partsN h.sz.toNat)) := RefI.new w hroot
  have hm0 : sl.map Sl.pl = (rs0 (partsN h.sz.toNat)).map RSl.sl := by rw [hpl0, rs0_sl]
  generalize rs0 (partsN h.sz.toNat) = l at hr0 hm0 ⊢
  have hn8 : partsN h.sz.toNat ≤ 128 := by unfold partsN; omega
  refine ⟨[none, none, none, none, some 4, none, none, none, none, none, some 10, some 11, some 12, some 13, some 14, some 15, none, none, none, none, none, none, none, none, none, none, none, none, none, none, none, none, none, none, none, none, none, none, none, none, none, none, none, none, none, none, none, none, none, none, none, none, none, none, none, none, none, none, none, none, none, none, none, none, none, none, none, none, none, none, none, none, none, none, some 74, some 75, some 76, some 77, some 78, some 79, some 80, some 81, some 82, some 83, some 84, some 85, some 86, some 87, some 88, some 89, some 90, some 91, some 92, some 93, some 94, some 95, some 96, some 97, some 98, some 99, some 100, some 101, some 102, some 103, some 104, some 105, some 106, some 107, some 108, some 109, some 110, some 111, some 112, some 113, some 114, some 115, some 116, some 117, some 118, some 119, some 120, some 121, some 122, some 123, some 124, some 125, some 126, some 127, some 128, some 129, some 130, some 131, some 132, some 133, some 134, some 135, some 136, some 137, some 138, some 139, some 140, some 141, some 142, some 143, some 144, some 145, some 146, some 147, some 148, some 149, some 150, some 151, some 152, some 153, some 154, some 155, some 156, some 157, some 158, some 159, some 160, some 161, some 162, some 163, some 164, some 165, some 166, some 167, some 168], [10], Nat × (Option Addr × Nat × Nat × Nat × List Sl) × List RSl,
    fun ⟨i, (C, cc, gdd, gp, sl), l⟩ => i ≤ prs.length ∧ (grow h.sums.length C ∧ h.sums.length ≤ cc ∧ (∀ s ∈ sl, SlOk s)) ∧ RefI R h l ∧ sl.map Sl.pl = l.map RSl.sl,
    fun ⟨i, _, _⟩ => [.int .i64 i],
    fun ⟨i, (C, cc, gdd, gp, sl), l⟩ => [.blk gb 26 (hdC h (.slice SA h.sums.length scap)), .blk gr 96 (rcC h C cc gdd gp sl.length), .row C h.sums.length cc 9 1 (SV h.sums) (0, 0),
      .row (some ⟨gdd, 0, .none⟩) sl.length sl.length 41 1 (sl.map Sl.dv) (0, 0), .row (some ⟨gp, 0, .none⟩) sl.length sl.length 24 1 (sl.map Sl.pv) (0, 0), .rows (rowsS sl),
      .row (some ⟨ga, 0, .none⟩) (partsN h.sz.toNat) (partsN h.sz.toNat) 4 1 (rsB l) (0, 0), .row (some ⟨gq, 0, .none⟩) (partsN h.sz.toNat) (partsN h.sz.toNat) 44 5 (rsC l) (0, 0),
      .blk g9 39 (hdC h (.slice SA h.sums.length scap) ++ [.slice (some ⟨ga, 0, .none⟩) (partsN h.sz.toNat) (partsN h.sz.toNat), .slice (some ⟨gq, 0, .none⟩) (partsN h.sz.toNat) (partsN h.sz.toNat)])],
    fun ⟨i, _, _⟩ => prs.length - i, (0, (C, cc, gdd, gp, sl), l), ⟨Nat.zero_le _, ⟨hgC, hcC, okS⟩, hr0, hm0⟩, ⟨rfl, trivial⟩, Ent.pick [0, 1, 1, 1, 1, 1, 2, 2, 2] rfl, ?_⟩
  clear hgC hcC okS hpl0 hr0 hm0
  rintro ⟨i, ⟨C, cc, gdd, gp, sl⟩, l⟩ ⟨hi, ⟨hgC, hcC, okS⟩, hr, hm⟩ js
  have hi : i ≤ prs.length := hi
  have hln2 : partsN h.sz.toNat = l.length := hr.len.symm
  rw [hln2] at hn8 ⊢
  refine ⟨fun hb => ?_, fun hb => ?_⟩
  · replace hb := of_decide_eq_true hb
    have hlt : i < prs.length := by omega
    obtain ⟨x, hx⟩ : ∃ x, prs[i]? = some x := ⟨_, List.getElem?_eq_getElem hlt⟩
    obtain ⟨hxd, hxs, hxo⟩ := hpok x (List.mem_of_getElem? hx)
    obtain ⟨pa, rfl, hpr⟩ := sl5_at hprs hx
    have hxd' := hxd
    have hxs' := hxs
    obtain ⟨DA, dc, hD, hdc, hdr⟩ := hxd'
    obtain ⟨EA, ec, hE2, hec, her⟩ := hxs'
    have hp3 := hpr 3 (.slice DA x.p.dt.length dc) (by rw [← hD]; rfl)
    have hp4 := hpr 4 (.slice EA x.p.path.length ec) (by rw [← hE2]; rfl)
    rw [addA_eq] at hp3 hp4
    have hone : allOne x.cells = true := by unfold RSl.cells ptC; rw [hD, hE2]; rfl
    refine ⟨[], (.q 0 (.q 1 (.q 2 (.q 3 (.q 4 (.q 5 (.q 6 (.q 7 (.q 8 (.q 9 (.one 10 (.one 11 (.q 12 .nil))))))))))))), by kernel_rfl, ?_⟩
    refine ⟨by omega, by omega, pa, rfl, ?_⟩
    refine ⟨_, .inl hp3, ?_⟩
    refine ⟨by omega, by omega, pa, rfl, ?_⟩
    refine ⟨_, .inl hp4, ?_⟩
    refine ⟨rfl, fun gz => ?_⟩
    refine ⟨[], _, few42_ok _ DA (some ⟨gz, 0, .none⟩) x.p.dt.length dc 1 EA x.p.path.length ec (SlR.own 9 rfl rfl (.inr ⟨gz, rfl⟩)), ?_⟩
    rintro _ _ ⟨rfl, rfl⟩
    by_cases hfe : x.p.path.length ≤ 20 ∧ x.p.dt.length ≤ 2600
    case neg =>
      rw [decide_eq_false hfe]
      repeat (first | (refine ⟨fun h => ?_, fun h => ?_⟩; rotate_left 1; (focus (exfalso; (first | (with_reducible (cases h; done)) | (revert h; simp; done) | (revert h; simp; omega) | (revert h; simp [*]; done)))); clear h) | (refine ⟨fun h => ?_, fun h => ?_⟩; (focus (exfalso; (first | (with_reducible (cases h; done)) | (revert h; simp; done) | (revert h; simp; omega) | (revert h; simp [*]; done)))); clear h))
      refine ⟨[], _, awake42_ok _ (hG.rh _), ?_⟩
      rintro _ _ ⟨rfl, rfl⟩
      repeat (first | (refine ⟨fun h => ?_, fun h => ?_⟩; rotate_left 1; (focus (exfalso; (first | (with_reducible (cases h; done)) | (revert h; simp; done) | (revert h; simp; omega) | (revert h; simp [*]; done)))); clear h) | (refine ⟨fun h => ?_, fun h => ?_⟩; (focus (exfalso; (first | (with_reducible (cases h; done)) | (revert h; simp; done) | (revert h; simp; omega) | (revert h; simp [*]; done)))); clear h))
      exact ⟨_, Ent.nil _, rfl⟩
    rw [decide_eq_true hfe]
    repeat (first | (refine ⟨fun h => ?_, fun h => ?_⟩; rotate_left 1; (focus (exfalso; (first | (with_reducible (cases h; done)) | (revert h; simp; done) | (revert h; simp; omega) | (revert h; simp [*]; done)))); clear h) | (refine ⟨fun h => ?_, fun h => ?_⟩; (focus (exfalso; (first | (with_reducible (cases h; done)) | (revert h; simp; done) | (revert h; simp; omega) | (revert h; simp [*]; done)))); clear h))
    refine ⟨by omega, by omega, pa, rfl, ?_⟩
    refine ⟨_, fun k u hu => .inl (hpr k u hu), rfl, ?_⟩
    intro g11
    refine ⟨rfl, hone, 10, rfl, rfl, Nat.le_of_ble_eq_true rfl, ?_⟩
    refine ⟨_, rdOff (o := 0) (n := 6) 8 rfl rfl, rfl, ?_⟩
    refine ⟨_, rdOff (o := 0) (n := 5) 10 rfl rfl, rfl, ?_⟩
    refine ⟨[], _, rCheck_ok _ h (.slice SA h.sums.length scap) l (some ⟨ga, 0, .none⟩) (some ⟨gq, 0, .none⟩) l.length l.length x.p x.D x.B w (hs.rh _) hr.len (SlR.own 6 rfl (by unfold rsB; rw [List.length_map, Nat.mul_one]) (.inr ⟨ga, rfl⟩)) hxo.lo hxo.hi (by omega) (by omega) (hxd.rh _) (hxs.rh _), ?_⟩
    rintro _ _ ⟨rfl, rfl⟩
    refine ⟨by omega, by omega, pa, rfl, ?_⟩
    refine ⟨_, fun k u hu => .inl (hpr k u hu), rfl, ?_⟩
    refine ⟨[1, 1, 1, 1, 1], _, Receive_ok _ (hG.rh _) (sls := l.map RSl.sl) x.p x.D x.B ⟨C, cc, gdd, gp, sl, hgC, hcC, okS, hm, rfl⟩ hr.gd hxo.lo hxo.hi (by omega) (by omega) (hxd.rh _) (hxs.rh _), ?_⟩
    clear hgC hcC okS hm
    rintro _ _ ⟨rfl, C, cc, gdd, gp, sl, hgC, hcC, okS, hm, rfl⟩
    by_cases e0 : recvE h (l.map RSl.sl) x.p = 0
    case neg =>
      rw [recvS_no e0] at hm
      generalize recvE h (l.map RSl.sl) x.p = e at e0
      repeat (first | (refine ⟨fun h => ?_, fun h => ?_⟩; rotate_left 1; (focus (exfalso; (first | (with_reducible (cases h; done)) | (revert h; simp; done) | (revert h; simp; omega) | (revert h; simp [*]; done)))); clear h) | (refine ⟨fun h => ?_, fun h => ?_⟩; (focus (exfalso; (first | (with_reducible (cases h; done)) | (revert h; simp; done) | (revert h; simp; omega) | (revert h; simp [*]; done)))); clear h))
      have hsl6 : sl.length ≤ 1000000 := by have := congrArg List.length hm; rw [List.length_map, List.length_map] at this; omega
      have hdat := dat_le hr
      refine ⟨_, rdOff (o := 0) (n := 6) 3 rfl rfl, rfl, ?_⟩
      refine ⟨[], _, rMissing_ok _ h (.slice SA h.sums.length scap) l (some ⟨ga, 0, .none⟩) (some ⟨gq, 0, .none⟩) l.length l.length (by omega) (SlR.own 1 rfl (by unfold rsB; rw [List.length_map, Nat.mul_one]) (.inr ⟨ga, rfl⟩)), ?_⟩
      rintro _ _ ⟨MA, mc, rfl, rfl, hgM⟩
      refine ⟨[], _, Next_ok42 _ hsl6 (rc_own 6 7 8 9 10 hgC hcC okS rfl rfl rfl rfl rfl), ?_⟩
      rw [hm]
      rintro _ _ ⟨rfl, rfl⟩
      unfold nextV
      have hmsl : missL (sl.map Sl.pl) = missL (l.map RSl.sl) := by rw [hm]
      have hml : (missL (l.map RSl.sl)).length ≤ 128 := by have := missK_le (l.map RSl.sl) (l.map RSl.sl).length; rw [List.length_map] at this; unfold missL; unfold missK at this; rw [List.length_map]; omega
      generalize missL (l.map RSl.sl) = ms at hgM hmsl hml ⊢
      cases ms with
      | nil =>
        refine ⟨[6,6,6,6,6,3,1,1,3], (.q 0 (.q 2 (.one 1 (.one 3 (.q 4 (.q 5 (.q 6 (.q 8 (.one 7 (.one 9 (.q 10 (.q 11 (.q 12 (.q 13 (.q 14 (.q 15 (.q 16 (.q 17 (.q 18 (.q 19 (.q 20 (.q 21 (.q 22 (.q 23 (.q 24 (.q 25 (.q 26 (.q 27 (.q 28 (.q 29 (.q 30 (.q 31 (.q 32 (.q 33 (.q 34 (.q 35 (.q 36 (.q 37 .nil)))))))))))))))))))))))))))))))))))))), by kernel_rfl, ?_⟩
        refine ⟨[], _, Missing_ok42 _ hsl6 ((rc_own (R := R) 0 1 2 3 4 hgC hcC okS rfl rfl rfl rfl rfl).rh _), ?_⟩
        rw [hmsl]
        rintro _ _ ⟨MB, mb, rfl, rfl, hgM2⟩
        refine ⟨[], _, Ints_ok _ _ _ _ _ (by omega) (SlR.own 3 rfl (by rw [NV_length, Nat.mul_one]) hgM2) ((SlR.own (R := R) 8 rfl (by rw [NV_length, Nat.mul_one]) hgM).rh _), ?_⟩
        rintro _ _ ⟨rfl, rfl⟩
        rw [decide_eq_true rfl]
        repeat (first | (refine ⟨fun h => ?_, fun h => ?_⟩; rotate_left 1; (focus (exfalso; (first | (with_reducible (cases h; done)) | (revert h; simp; done) | (revert h; simp; omega) | (revert h; simp [*]; done)))); clear h) | (refine ⟨fun h => ?_, fun h => ?_⟩; (focus (exfalso; (first | (with_reducible (cases h; done)) | (revert h; simp; done) | (revert h; simp; omega) | (revert h; simp [*]; done)))); clear h))
        refine ⟨_, rdOff (o := 0) (n := 6) 5 rfl rfl, rfl, ?_⟩
        repeat (first | (refine ⟨fun h => ?_, fun h => ?_⟩; rotate_left 1; (focus (exfalso; (first | (with_reducible (cases h; done)) | (revert h; simp; done) | (revert h; simp; omega) | (revert h; simp [*]; done)))); clear h) | (refine ⟨fun h => ?_, fun h => ?_⟩; (focus (exfalso; (first | (with_reducible (cases h; done)) | (revert h; simp; done) | (revert h; simp; omega) | (revert h; simp [*]; done)))); clear h))
        refine ⟨[], _, Have_ok42 _ hsl6 (by rw [hm]; omega) ((rc_own (R := R) 0 1 2 3 4 hgC hcC okS rfl rfl rfl rfl rfl).rh _), ?_⟩
        rw [hm]
        rintro _ _ ⟨rfl, rfl⟩
        repeat (first | (refine ⟨fun h => ?_, fun h => ?_⟩; rotate_left 1; (focus (exfalso; (first | (with_reducible (cases h; done)) | (revert h; simp; done) | (revert h; simp; omega) | (revert h; simp [*]; done)))); clear h) | (refine ⟨fun h => ?_, fun h => ?_⟩; (focus (exfalso; (first | (with_reducible (cases h; done)) | (revert h; simp; done) | (revert h; simp; omega) | (revert h; simp [*]; done)))); clear h))
        refine ⟨[], _, rData_ok _ h (.slice SA h.sums.length scap) l (some ⟨ga, 0, .none⟩) (some ⟨gq, 0, .none⟩) l.length l.length (by omega) ((SlR.own (R := R) 6 rfl (by unfold rsB; rw [List.length_map, Nat.mul_one]) (.inr ⟨ga, rfl⟩)).rh _) ((SlR.own (R := R) 7 rfl (rsC_length l) (.inr ⟨gq, rfl⟩)).rh _) (fun x hx hb => ⟨(hr.wp x hx hb).1.d1, ((hr.wp x hx hb).2.1.rh _).rh _⟩), ?_⟩
        rintro _ _ ⟨HA2, hc2, rfl, rfl, hgH⟩
        repeat (first | (refine ⟨fun h => ?_, fun h => ?_⟩; rotate_left 1; (focus (exfalso; (first | (with_reducible (cases h; done)) | (revert h; simp; done) | (revert h; simp; omega) | (revert h; simp [*]; done)))); clear h) | (refine ⟨fun h => ?_, fun h => ?_⟩; (focus (exfalso; (first | (with_reducible (cases h; done)) | (revert h; simp; done) | (revert h; simp; omega) | (revert h; simp [*]; done)))); clear h))
        (intro z hz; obtain rfl : z = ((i + 1 : Nat) : Int) := (by first | (rw [IntKind.wrap_i64] at hz; omega) | (rw [IntKind.wrap_u64] at hz; omega) | omega); clear hz)
        exact ⟨rfl, (i + 1, (C, cc, gdd, gp, sl), l), ⟨hlt, ⟨hgC, hcC, okS⟩, hr, hm⟩, by show prs.length - (i + 1) < prs.length - i; omega, ⟨rfl, trivial⟩, Ent.pick [9, 0, 0, 0, 0, 0, 1, 1, 0] rfl, rfl⟩
      | cons k r =>
        obtain ⟨mg, rfl⟩ : ∃ mg, MA = some ⟨mg, 0, .none⟩ := by
          rcases hgM with h | ⟨mg, h⟩
          · simp at h
          · exact ⟨mg, h⟩
        refine ⟨[6,6,6,6,6,3,1,1,3], (.q 0 (.q 2 (.one 1 (.one 3 (.q 4 (.q 5 (.q 6 (.q 8 (.one 7 (.one 9 (.q 10 (.q 11 (.q 12 (.q 13 (.q 14 (.q 15 (.q 16 (.q 17 (.q 18 (.q 19 (.q 20 (.q 21 (.q 22 (.q 23 (.q 24 (.q 25 (.q 26 (.q 27 (.q 28 (.q 29 (.q 30 (.q 31 (.q 32 (.q 33 (.q 34 (.q 35 (.q 36 (.q 37 .nil)))))))))))))))))))))))))))))))))))))), by kernel_rfl, ?_⟩
        refine ⟨[], _, Missing_ok42 _ hsl6 ((rc_own (R := R) 0 1 2 3 4 hgC hcC okS rfl rfl rfl rfl rfl).rh _), ?_⟩
        rw [hmsl]
        rintro _ _ ⟨MB, mb, rfl, rfl, hgM2⟩
        refine ⟨[], _, Ints_ok _ _ _ _ _ (by omega) (SlR.own 3 rfl (by rw [NV_length, Nat.mul_one]) hgM2) ((SlR.own (R := R) 8 rfl (by rw [NV_length, Nat.mul_one]) hgM).rh _), ?_⟩
        rintro _ _ ⟨rfl, rfl⟩
        rw [decide_eq_true rfl]
        repeat (first | (refine ⟨fun h => ?_, fun h => ?_⟩; rotate_left 1; (focus (exfalso; (first | (with_reducible (cases h; done)) | (revert h; simp; done) | (revert h; simp; omega) | (revert h; simp [*]; done)))); clear h) | (refine ⟨fun h => ?_, fun h => ?_⟩; (focus (exfalso; (first | (with_reducible (cases h; done)) | (revert h; simp; done) | (revert h; simp; omega) | (revert h; simp [*]; done)))); clear h))
        refine ⟨_, rdOff (o := 0) (n := 6) 5 rfl rfl, rfl, ?_⟩
        repeat (first | (refine ⟨fun h => ?_, fun h => ?_⟩; rotate_left 1; (focus (exfalso; (first | (with_reducible (cases h; done)) | (revert h; simp; done) | (revert h; simp; omega) | (revert h; simp [*]; done)))); clear h) | (refine ⟨fun h => ?_, fun h => ?_⟩; (focus (exfalso; (first | (with_reducible (cases h; done)) | (revert h; simp; done) | (revert h; simp; omega) | (revert h; simp [*]; done)))); clear h))
        refine ⟨[], _, Have_ok42 _ hsl6 (by rw [hm]; omega) ((rc_own (R := R) 0 1 2 3 4 hgC hcC okS rfl rfl rfl rfl rfl).rh _), ?_⟩
        rw [hm]
        rintro _ _ ⟨rfl, rfl⟩
        repeat (first | (refine ⟨fun h => ?_, fun h => ?_⟩; rotate_left 1; (focus (exfalso; (first | (with_reducible (cases h; done)) | (revert h; simp; done) | (revert h; simp; omega) | (revert h; simp [*]; done)))); clear h) | (refine ⟨fun h => ?_, fun h => ?_⟩; (focus (exfalso; (first | (with_reducible (cases h; done)) | (revert h; simp; done) | (revert h; simp; omega) | (revert h; simp [*]; done)))); clear h))
        refine ⟨[], _, rData_ok _ h (.slice SA h.sums.length scap) l (some ⟨ga, 0, .none⟩) (some ⟨gq, 0, .none⟩) l.length l.length (by omega) ((SlR.own (R := R) 6 rfl (by unfold rsB; rw [List.length_map, Nat.mul_one]) (.inr ⟨ga, rfl⟩)).rh _) ((SlR.own (R := R) 7 rfl (rsC_length l) (.inr ⟨gq, rfl⟩)).rh _) (fun x hx hb => ⟨(hr.wp x hx hb).1.d1, ((hr.wp x hx hb).2.1.rh _).rh _⟩), ?_⟩
        rintro _ _ ⟨HA2, hc2, rfl, rfl, hgH⟩
        repeat (first | (refine ⟨fun h => ?_, fun h => ?_⟩; rotate_left 1; (focus (exfalso; (first | (with_reducible (cases h; done)) | (revert h; simp; done) | (revert h; simp; omega) | (revert h; simp [*]; done)))); clear h) | (refine ⟨fun h => ?_, fun h => ?_⟩; (focus (exfalso; (first | (with_reducible (cases h; done)) | (revert h; simp; done) | (revert h; simp; omega) | (revert h; simp [*]; done)))); clear h))
        refine ⟨by omega, by rw [List.length_cons]; omega, _, rfl, ?_⟩
        repeat (first | (refine ⟨fun h => ?_, fun h => ?_⟩; rotate_left 1; (focus (exfalso; (first | (with_reducible (cases h; done)) | (revert h; simp; done) | (revert h; simp; omega) | (revert h; simp [*]; done)))); clear h) | (refine ⟨fun h => ?_, fun h => ?_⟩; (focus (exfalso; (first | (with_reducible (cases h; done)) | (revert h; simp; done) | (revert h; simp; omega) | (revert h; simp [*]; done)))); clear h))
        refine ⟨.int .i64 (k : Int), (show RH R _ (addA ⟨mg, 0, .none⟩ (Int.toNat 0 * 1)) (.int .i64 (k : Int)) from ldr 8 rfl rfl), ?_⟩
        repeat (first | (refine ⟨fun h => ?_, fun h => ?_⟩; rotate_left 1; (focus (exfalso; (first | (with_reducible (cases h; done)) | (revert h; simp; done) | (revert h; simp; omega) | (revert h; simp [*]; done)))); clear h) | (refine ⟨fun h => ?_, fun h => ?_⟩; (focus (exfalso; (first | (with_reducible (cases h; done)) | (revert h; simp; done) | (revert h; simp; omega) | (revert h; simp [*]; done)))); clear h))
        (intro z hz; obtain rfl : z = ((i + 1 : Nat) : Int) := (by first | (rw [IntKind.wrap_i64] at hz; omega) | (rw [IntKind.wrap_u64] at hz; omega) | omega); clear hz)
        exact ⟨rfl, (i + 1, (C, cc, gdd, gp, sl), l), ⟨hlt, ⟨hgC, hcC, okS⟩, hr, hm⟩, by show prs.length - (i + 1) < prs.length - i; omega, ⟨rfl, trivial⟩, Ent.pick [9, 0, 0, 0, 0, 0, 1, 1, 0] rfl, rfl⟩
    obtain ⟨hk, hr2, hm2⟩ := hr.step hxd hxs e0
    rw [← hm2] at hm
    rw [e0]
    repeat (first | (refine ⟨fun h => ?_, fun h => ?_⟩; rotate_left 1; (focus (exfalso; (first | (with_reducible (cases h; done)) | (revert h; simp; done) | (revert h; simp; omega) | (revert h; simp [*]; done)))); clear h) | (refine ⟨fun h => ?_, fun h => ?_⟩; (focus (exfalso; (first | (with_reducible (cases h; done)) | (revert h; simp; done) | (revert h; simp; omega) | (revert h; simp [*]; done)))); clear h))
    have hto := of_decide_eq_true (recvE_zero e0).1
    refine ⟨[3,4], (.q 0 (.q 1 (.q 2 (.q 3 (.q 4 (.q 5 (.q 6 (.q 7 (.q 8 (.q 9 (.q 10 (.q 11 (.one 12 (.q 13 (.fin 14))))))))))))))), by kernel_rfl, ?_⟩
    refine ⟨_, ld 0 rfl rfl, ?_⟩
    refine ⟨_, ld 1 rfl rfl, ?_⟩
    refine ⟨by decide, ?_⟩
    intro z hz
    obtain rfl := quo_nat (a := x.p.off.toNat) (b := 512) (by omega) (by omega) hz
    clear hz
    refine ⟨_, ld 0 rfl rfl, ?_⟩
    refine ⟨_, ld 1 rfl rfl, ?_⟩
    refine ⟨by decide, ?_⟩
    intro z hz
    obtain rfl := quo_nat (a := x.p.off.toNat) (b := 512) (by omega) (by omega) hz
    clear hz
    refine ⟨x.cells, rdOff (o := 0) (n := 5) 1 rfl rfl, rfl, ?_⟩
    refine ⟨by omega, by omega, _, rfl, ?_⟩
    have hkB : x.p.off.toNat / 512 < (rsB l).length := by unfold rsB; rw [List.length_map]; exact hk
    refine ⟨rfl, rfl, 1, nthK_mk rfl (str0 hkB ?_)⟩
    refine ⟨by omega, by omega, _, rfl, ?_⟩
    refine ⟨rfl, hone, 4, nthK_mk rfl (str5 (x := ⟨true, x.p, x.D, x.B⟩) hk ?_)⟩
    rw [show (rsB l).set (x.p.off.toNat / 512) (.bool true) = rsB (l.set (x.p.off.toNat / 512) ⟨true, x.p, x.D, x.B⟩) from (rsB_set l (x.p.off.toNat / 512) ⟨true, x.p, x.D, x.B⟩).symm]
    have e2 : l.length = (l.set (x.p.off.toNat / 512) ⟨true, x.p, x.D, x.B⟩).length := List.length_set.symm
    generalize l.set (x.p.off.toNat / 512) ⟨true, x.p, x.D, x.B⟩ = l2 at hr2 hm hm2 e2 ⊢
    rw [e2] at hn8 hln2 ⊢
    have hsl6 : sl.length ≤ 1000000 := by have := congrArg List.length hm; rw [List.length_map, List.length_map] at this; omega
    have hdat := dat_le hr2
    refine ⟨_, rdOff (o := 0) (n := 6) 0 rfl rfl, rfl, ?_⟩
    refine ⟨[], _, rMissing_ok _ h (.slice SA h.sums.length scap) l2 (some ⟨ga, 0, .none⟩) (some ⟨gq, 0, .none⟩) l2.length l2.length (by omega) (SlR.own 3 rfl (by unfold rsB; rw [List.length_map, Nat.mul_one]) (.inr ⟨ga, rfl⟩)), ?_⟩
    rintro _ _ ⟨MA, mc, rfl, rfl, hgM⟩
    refine ⟨[], _, Next_ok42 _ hsl6 (rc_own 6 7 8 9 10 hgC hcC okS rfl rfl rfl rfl rfl), ?_⟩
    rw [hm]
    rintro _ _ ⟨rfl, rfl⟩
    unfold nextV
    have hmsl : missL (sl.map Sl.pl) = missL (l2.map RSl.sl) := by rw [hm]
    have hml : (missL (l2.map RSl.sl)).length ≤ 128 := by have := missK_le (l2.map RSl.sl) (l2.map RSl.sl).length; rw [List.length_map] at this; unfold missL; unfold missK at this; rw [List.length_map]; omega
    generalize missL (l2.map RSl.sl) = ms at hgM hmsl hml ⊢
    cases ms with
    | nil =>
      refine ⟨[6,6,6,6,6,0,2,2,3], (.q 0 (.q 2 (.one 1 (.one 3 (.q 4 (.q 5 (.q 6 (.q 8 (.one 7 (.one 9 (.q 10 (.q 11 (.q 12 (.q 13 (.q 14 (.q 15 (.q 16 (.q 17 (.q 18 (.q 19 (.q 20 (.q 21 (.q 22 (.q 23 (.q 24 (.q 25 (.q 26 (.q 27 (.q 28 (.q 29 (.q 30 (.q 31 (.q 32 (.q 33 (.q 34 (.q 35 (.q 36 (.q 37 .nil)))))))))))))))))))))))))))))))))))))), by kernel_rfl, ?_⟩
      refine ⟨[], _, Missing_ok42 _ hsl6 ((rc_own (R := R) 0 1 2 3 4 hgC hcC okS rfl rfl rfl rfl rfl).rh _), ?_⟩
      rw [hmsl]
      rintro _ _ ⟨MB, mb, rfl, rfl, hgM2⟩
      refine ⟨[], _, Ints_ok _ _ _ _ _ (by omega) (SlR.own 3 rfl (by rw [NV_length, Nat.mul_one]) hgM2) ((SlR.own (R := R) 8 rfl (by rw [NV_length, Nat.mul_one]) hgM).rh _), ?_⟩
      rintro _ _ ⟨rfl, rfl⟩
      rw [decide_eq_true rfl]
      repeat (first | (refine ⟨fun h => ?_, fun h => ?_⟩; rotate_left 1; (focus (exfalso; (first | (with_reducible (cases h; done)) | (revert h; simp; done) | (revert h; simp; omega) | (revert h; simp [*]; done)))); clear h) | (refine ⟨fun h => ?_, fun h => ?_⟩; (focus (exfalso; (first | (with_reducible (cases h; done)) | (revert h; simp; done) | (revert h; simp; omega) | (revert h; simp [*]; done)))); clear h))
      refine ⟨_, rdOff (o := 0) (n := 6) 5 rfl rfl, rfl, ?_⟩
      repeat (first | (refine ⟨fun h => ?_, fun h => ?_⟩; rotate_left 1; (focus (exfalso; (first | (with_reducible (cases h; done)) | (revert h; simp; done) | (revert h; simp; omega) | (revert h; simp [*]; done)))); clear h) | (refine ⟨fun h => ?_, fun h => ?_⟩; (focus (exfalso; (first | (with_reducible (cases h; done)) | (revert h; simp; done) | (revert h; simp; omega) | (revert h; simp [*]; done)))); clear h))
      refine ⟨[], _, Have_ok42 _ hsl6 (by rw [hm]; omega) ((rc_own (R := R) 0 1 2 3 4 hgC hcC okS rfl rfl rfl rfl rfl).rh _), ?_⟩
      rw [hm]
      rintro _ _ ⟨rfl, rfl⟩
      repeat (first | (refine ⟨fun h => ?_, fun h => ?_⟩; rotate_left 1; (focus (exfalso; (first | (with_reducible (cases h; done)) | (revert h; simp; done) | (revert h; simp; omega) | (revert h; simp [*]; done)))); clear h) | (refine ⟨fun h => ?_, fun h => ?_⟩; (focus (exfalso; (first | (with_reducible (cases h; done)) | (revert h; simp; done) | (revert h; simp; omega) | (revert h; simp [*]; done)))); clear h))
      refine ⟨[], _, rData_ok _ h (.slice SA h.sums.length scap) l2 (some ⟨ga, 0, .none⟩) (some ⟨gq, 0, .none⟩) l2.length l2.length (by omega) ((SlR.own (R := R) 6 rfl (by unfold rsB; rw [List.length_map, Nat.mul_one]) (.inr ⟨ga, rfl⟩)).rh _) ((SlR.own (R := R) 7 rfl (rsC_length l2) (.inr ⟨gq, rfl⟩)).rh _) (fun x hx hb => ⟨(hr2.wp x hx hb).1.d1, ((hr2.wp x hx hb).2.1.rh _).rh _⟩), ?_⟩
      rintro _ _ ⟨HA2, hc2, rfl, rfl, hgH⟩
      repeat (first | (refine ⟨fun h => ?_, fun h => ?_⟩; rotate_left 1; (focus (exfalso; (first | (with_reducible (cases h; done)) | (revert h; simp; done) | (revert h; simp; omega) | (revert h; simp [*]; done)))); clear h) | (refine ⟨fun h => ?_, fun h => ?_⟩; (focus (exfalso; (first | (with_reducible (cases h; done)) | (revert h; simp; done) | (revert h; simp; omega) | (revert h; simp [*]; done)))); clear h))
      (intro z hz; obtain rfl : z = ((i + 1 : Nat) : Int) := (by first | (rw [IntKind.wrap_i64] at hz; omega) | (rw [IntKind.wrap_u64] at hz; omega) | omega); clear hz)
      exact ⟨rfl, (i + 1, (C, cc, gdd, gp, sl), l2), ⟨hlt, ⟨hgC, hcC, okS⟩, hr2, hm⟩, by show prs.length - (i + 1) < prs.length - i; omega, ⟨rfl, trivial⟩, Ent.pick [10, 0, 0, 0, 0, 0, 1, 1, 0] rfl, rfl⟩
    | cons k r =>
      obtain ⟨mg, rfl⟩ : ∃ mg, MA = some ⟨mg, 0, .none⟩ := by
        rcases hgM with h | ⟨mg, h⟩
        · simp at h
        · exact ⟨mg, h⟩
      refine ⟨[6,6,6,6,6,0,2,2,3], (.q 0 (.q 2 (.one 1 (.one 3 (.q 4 (.q 5 (.q 6 (.q 8 (.one 7 (.one 9 (.q 10 (.q 11 (.q 12 (.q 13 (.q 14 (.q 15 (.q 16 (.q 17 (.q 18 (.q 19 (.q 20 (.q 21 (.q 22 (.q 23 (.q 24 (.q 25 (.q 26 (.q 27 (.q 28 (.q 29 (.q 30 (.q 31 (.q 32 (.q 33 (.q 34 (.q 35 (.q 36 (.q 37 .nil)))))))))))))))))))))))))))))))))))))), by kernel_rfl, ?_⟩
      refine ⟨[], _, Missing_ok42 _ hsl6 ((rc_own (R := R) 0 1 2 3 4 hgC hcC okS rfl rfl rfl rfl rfl).rh _), ?_⟩
      rw [hmsl]
      rintro _ _ ⟨MB, mb, rfl, rfl, hgM2⟩
      refine ⟨[], _, Ints_ok _ _ _ _ _ (by omega) (SlR.own 3 rfl (by rw [NV_length, Nat.mul_one]) hgM2) ((SlR.own (R := R) 8 rfl (by rw [NV_length, Nat.mul_one]) hgM).rh _), ?_⟩
      rintro _ _ ⟨rfl, rfl⟩
      rw [decide_eq_true rfl]
      repeat (first | (refine ⟨fun h => ?_, fun h => ?_⟩; rotate_left 1; (focus (exfalso; (first | (with_reducible (cases h; done)) | (revert h; simp; done) | (revert h; simp; omega) | (revert h; simp [*]; done)))); clear h) | (refine ⟨fun h => ?_, fun h => ?_⟩; (focus (exfalso; (first | (with_reducible (cases h; done)) | (revert h; simp; done) | (revert h; simp; omega) | (revert h; simp [*]; done)))); clear h))
      refine ⟨_, rdOff (o := 0) (n := 6) 5 rfl rfl, rfl, ?_⟩
      repeat (first | (refine ⟨fun h => ?_, fun h => ?_⟩; rotate_left 1; (focus (exfalso; (first | (with_reducible (cases h; done)) | (revert h; simp; done) | (revert h; simp; omega) | (revert h; simp [*]; done)))); clear h) | (refine ⟨fun h => ?_, fun h => ?_⟩; (focus (exfalso; (first | (with_reducible (cases h; done)) | (revert h; simp; done) | (revert h; simp; omega) | (revert h; simp [*]; done)))); clear h))
      refine ⟨[], _, Have_ok42 _ hsl6 (by rw [hm]; omega) ((rc_own (R := R) 0 1 2 3 4 hgC hcC okS rfl rfl rfl rfl rfl).rh _), ?_⟩
      rw [hm]
      rintro _ _ ⟨rfl, rfl⟩
      repeat (first | (refine ⟨fun h => ?_, fun h => ?_⟩; rotate_left 1; (focus (exfalso; (first | (with_reducible (cases h; done)) | (revert h; simp; done) | (revert h; simp; omega) | (revert h; simp [*]; done)))); clear h) | (refine ⟨fun h => ?_, fun h => ?_⟩; (focus (exfalso; (first | (with_reducible (cases h; done)) | (revert h; simp; done) | (revert h; simp; omega) | (revert h; simp [*]; done)))); clear h))
      refine ⟨[], _, rData_ok _ h (.slice SA h.sums.length scap) l2 (some ⟨ga, 0, .none⟩) (some ⟨gq, 0, .none⟩) l2.length l2.length (by omega) ((SlR.own (R := R) 6 rfl (by unfold rsB; rw [List.length_map, Nat.mul_one]) (.inr ⟨ga, rfl⟩)).rh _) ((SlR.own (R := R) 7 rfl (rsC_length l2) (.inr ⟨gq, rfl⟩)).rh _) (fun x hx hb => ⟨(hr2.wp x hx hb).1.d1, ((hr2.wp x hx hb).2.1.rh _).rh _⟩), ?_⟩
      rintro _ _ ⟨HA2, hc2, rfl, rfl, hgH⟩
      repeat (first | (refine ⟨fun h => ?_, fun h => ?_⟩; rotate_left 1; (focus (exfalso; (first | (with_reducible (cases h; done)) | (revert h; simp; done) | (revert h; simp; omega) | (revert h; simp [*]; done)))); clear h) | (refine ⟨fun h => ?_, fun h => ?_⟩; (focus (exfalso; (first | (with_reducible (cases h; done)) | (revert h; simp; done) | (revert h; simp; omega) | (revert h; simp [*]; done)))); clear h))
      refine ⟨by omega, by rw [List.length_cons]; omega, _, rfl, ?_⟩
      repeat (first | (refine ⟨fun h => ?_, fun h => ?_⟩; rotate_left 1; (focus (exfalso; (first | (with_reducible (cases h; done)) | (revert h; simp; done) | (revert h; simp; omega) | (revert h; simp [*]; done)))); clear h) | (refine ⟨fun h => ?_, fun h => ?_⟩; (focus (exfalso; (first | (with_reducible (cases h; done)) | (revert h; simp; done) | (revert h; simp; omega) | (revert h; simp [*]; done)))); clear h))
      refine ⟨.int .i64 (k : Int), (show RH R _ (addA ⟨mg, 0, .none⟩ (Int.toNat 0 * 1)) (.int .i64 (k : Int)) from ldr 8 rfl rfl), ?_⟩
      repeat (first | (refine ⟨fun h => ?_, fun h => ?_⟩; rotate_left 1; (focus (exfalso; (first | (with_reducible (cases h; done)) | (revert h; simp; done) | (revert h; simp; omega) | (revert h; simp [*]; done)))); clear h) | (refine ⟨fun h => ?_, fun h => ?_⟩; (focus (exfalso; (first | (with_reducible (cases h; done)) | (revert h; simp; done) | (revert h; simp; omega) | (revert h; simp [*]; done)))); clear h))
      (intro z hz; obtain rfl : z = ((i + 1 : Nat) : Int) := (by first | (rw [IntKind.wrap_i64] at hz; omega) | (rw [IntKind.wrap_u64] at hz; omega) | omega); clear hz)
      exact ⟨rfl, (i + 1, (C, cc, gdd, gp, sl), l2), ⟨hlt, ⟨hgC, hcC, okS⟩, hr2, hm⟩, by show prs.length - (i + 1) < prs.length - i; omega, ⟨rfl, trivial⟩, Ent.pick [10, 0, 0, 0, 0, 0, 1, 1, 0] rfl, rfl⟩
  · replace hb := of_decide_eq_false hb
    have hsl6 : sl.length ≤ 1000000 := by have := congrArg List.length hm; rw [List.length_map, List.length_map] at this; omega
    have hdat := dat_le hr
    have hpe : pres h (sl.map Sl.pl) = rsP l := by rw [hm, hr.pres]
    have hgd : GoodR h (sl.map Sl.pl) := by rw [hm]; exact hr.gd
    refine ⟨[], _, Piece_ok42 _ hsl6 (by omega) (by rw [hm]; omega) (rc_own 1 2 3 4 5 hgC hcC okS rfl rfl rfl rfl rfl), ?_⟩
    rw [hm]
    rintro _ _ (⟨hms, rfl, rfl⟩ | ⟨hms, QA, qa, QB, qb, rfl, rfl, hgQA, hcQA, hgQB, hcQB⟩)
    · intro g16
      refine ⟨rfl, rfl, 9, rfl, rfl, Nat.le_of_ble_eq_true rfl, ?_⟩
      refine ⟨[1,1,1,1,1,3,1,1], (.q 0 (.q 3 (.one 1 (.two 2 (.one 4 (.one 5 (.q 6 .nil))) 4 (.two 2 (.one 5 (.q 6 .nil)) 5 (.one 2 (.q 6 .nil))))))), by kernel_rfl, ?_⟩
      refine ⟨_, rdOff (o := 0) (n := 6) 5 rfl rfl, rfl, ?_⟩
      refine ⟨[], _, Save_ok _ hgd ((rc_own (R := R) 0 1 2 3 4 hgC hcC okS rfl rfl rfl rfl rfl).rh _), ?_⟩
      rw [hpe]
      rintro _ _ ⟨E1, ecap1, rfl, rfl, hgE1, hcE1⟩
      refine ⟨?_, ?_⟩
      · skip
        refine ⟨encR h (rsP l), rfl, fun j c hb => BsR.at_ (SlR.own 2 rfl (by rw [BV_length, Nat.mul_one]) hgE1) hb, ?_⟩
        refine ⟨[], _, rSave_ok _ h (.slice SA h.sums.length scap) l (some ⟨ga, 0, .none⟩) (some ⟨gq, 0, .none⟩) l.length l.length w ((hs.rh _).rh _) (by omega) ((SlR.own (R := R) 6 rfl (by unfold rsB; rw [List.length_map, Nat.mul_one]) (.inr ⟨ga, rfl⟩)).rh _) ((SlR.own (R := R) 7 rfl (rsC_length l) (.inr ⟨gq, rfl⟩)).rh _) (fun x hx hb => ⟨(hr.wp x hx hb).1, ((hr.wp x hx hb).2.1.rh _).rh _, ((hr.wp x hx hb).2.2.rh _).rh _⟩), ?_⟩
        rintro _ _ ⟨E2, ecap2, rfl, rfl, hgE2, hcE2⟩
        refine ⟨encR h (rsP l), rfl, fun j c hb => BsR.at_ (SlR.own 3 rfl (by rw [BV_length, Nat.mul_one]) hgE2) hb, ?_⟩
        repeat (first | (refine ⟨fun h => ?_, fun h => ?_⟩; rotate_left 1; (focus (exfalso; (first | (with_reducible (cases h; done)) | (revert h; simp; done) | (revert h; simp; omega) | (revert h; simp [*]; done)))); clear h) | (refine ⟨fun h => ?_, fun h => ?_⟩; (focus (exfalso; (first | (with_reducible (cases h; done)) | (revert h; simp; done) | (revert h; simp; omega) | (revert h; simp [*]; done)))); clear h))
        refine ⟨_, rdOff (o := 0) (n := 6) 5 rfl rfl, rfl, ?_⟩
        refine ⟨[], _, rMissing_ok _ h (.slice SA h.sums.length scap) l (some ⟨ga, 0, .none⟩) (some ⟨gq, 0, .none⟩) l.length l.length (by omega) (SlR.own 6 rfl (by unfold rsB; rw [List.length_map, Nat.mul_one]) (.inr ⟨ga, rfl⟩)), ?_⟩
        rintro _ _ ⟨MA, mc, rfl, rfl, hgM⟩
        generalize missL (l.map RSl.sl) = ms at hms hgM ⊢
        cases ms with
        | nil => exact absurd rfl hms
        | cons k r =>
          repeat (first | (refine ⟨fun h => ?_, fun h => ?_⟩; rotate_left 1; (focus (exfalso; (first | (with_reducible (cases h; done)) | (revert h; simp; done) | (revert h; simp; omega) | (revert h; simp [*]; done)))); clear h) | (refine ⟨fun h => ?_, fun h => ?_⟩; (focus (exfalso; (first | (with_reducible (cases h; done)) | (revert h; simp; done) | (revert h; simp; omega) | (revert h; simp [*]; done)))); clear h))
          refine ⟨[], _, awake42_ok _ (hG.rh _), ?_⟩
          rintro _ _ ⟨rfl, rfl⟩
          repeat (first | (refine ⟨fun h => ?_, fun h => ?_⟩; rotate_left 1; (focus (exfalso; (first | (with_reducible (cases h; done)) | (revert h; simp; done) | (revert h; simp; omega) | (revert h; simp [*]; done)))); clear h) | (refine ⟨fun h => ?_, fun h => ?_⟩; (focus (exfalso; (first | (with_reducible (cases h; done)) | (revert h; simp; done) | (revert h; simp; omega) | (revert h; simp [*]; done)))); clear h))
          refine ⟨_, ld 9 rfl rfl, ?_⟩
          repeat (first | (refine ⟨fun h => ?_, fun h => ?_⟩; rotate_left 1; (focus (exfalso; (first | (with_reducible (cases h; done)) | (revert h; simp; done) | (revert h; simp; omega) | (revert h; simp [*]; done)))); clear h) | (refine ⟨fun h => ?_, fun h => ?_⟩; (focus (exfalso; (first | (with_reducible (cases h; done)) | (revert h; simp; done) | (revert h; simp; omega) | (revert h; simp [*]; done)))); clear h))
          exact ⟨_, Ent.nil _, rfl⟩
      · skip
        refine ⟨[], _, rSave_ok _ h (.slice SA h.sums.length scap) l (some ⟨ga, 0, .none⟩) (some ⟨gq, 0, .none⟩) l.length l.length w ((hs.rh _).rh _) (by omega) ((SlR.own (R := R) 6 rfl (by unfold rsB; rw [List.length_map, Nat.mul_one]) (.inr ⟨ga, rfl⟩)).rh _) ((SlR.own (R := R) 7 rfl (rsC_length l) (.inr ⟨gq, rfl⟩)).rh _) (fun x hx hb => ⟨(hr.wp x hx hb).1, ((hr.wp x hx hb).2.1.rh _).rh _, ((hr.wp x hx hb).2.2.rh _).rh _⟩), ?_⟩
        rintro _ _ ⟨E2, ecap2, rfl, rfl, hgE2, hcE2⟩
        refine ⟨?_, ?_⟩
        · skip
          refine ⟨encR h (rsP l), rfl, fun j c hb => BsR.at_ (SlR.own 2 rfl (by rw [BV_length, Nat.mul_one]) hgE1) hb, ?_⟩
          refine ⟨encR h (rsP l), rfl, fun j c hb => BsR.at_ (SlR.own 3 rfl (by rw [BV_length, Nat.mul_one]) hgE2) hb, ?_⟩
          repeat (first | (refine ⟨fun h => ?_, fun h => ?_⟩; rotate_left 1; (focus (exfalso; (first | (with_reducible (cases h; done)) | (revert h; simp; done) | (revert h; simp; omega) | (revert h; simp [*]; done)))); clear h) | (refine ⟨fun h => ?_, fun h => ?_⟩; (focus (exfalso; (first | (with_reducible (cases h; done)) | (revert h; simp; done) | (revert h; simp; omega) | (revert h; simp [*]; done)))); clear h))
          refine ⟨_, rdOff (o := 0) (n := 6) 5 rfl rfl, rfl, ?_⟩
          refine ⟨[], _, rMissing_ok _ h (.slice SA h.sums.length scap) l (some ⟨ga, 0, .none⟩) (some ⟨gq, 0, .none⟩) l.length l.length (by omega) (SlR.own 6 rfl (by unfold rsB; rw [List.length_map, Nat.mul_one]) (.inr ⟨ga, rfl⟩)), ?_⟩
          rintro _ _ ⟨MA, mc, rfl, rfl, hgM⟩
          generalize missL (l.map RSl.sl) = ms at hms hgM ⊢
          cases ms with
          | nil => exact absurd rfl hms
          | cons k r =>
            repeat (first | (refine ⟨fun h => ?_, fun h => ?_⟩; rotate_left 1; (focus (exfalso; (first | (with_reducible (cases h; done)) | (revert h; simp; done) | (revert h; simp; omega) | (revert h; simp [*]; done)))); clear h) | (refine ⟨fun h => ?_, fun h => ?_⟩; (focus (exfalso; (first | (with_reducible (cases h; done)) | (revert h; simp; done) | (revert h; simp; omega) | (revert h; simp [*]; done)))); clear h))
            refine ⟨[], _, awake42_ok _ (hG.rh _), ?_⟩
            rintro _ _ ⟨rfl, rfl⟩
            repeat (first | (refine ⟨fun h => ?_, fun h => ?_⟩; rotate_left 1; (focus (exfalso; (first | (with_reducible (cases h; done)) | (revert h; simp; done) | (revert h; simp; omega) | (revert h; simp [*]; done)))); clear h) | (refine ⟨fun h => ?_, fun h => ?_⟩; (focus (exfalso; (first | (with_reducible (cases h; done)) | (revert h; simp; done) | (revert h; simp; omega) | (revert h; simp [*]; done)))); clear h))
            refine ⟨_, ld 9 rfl rfl, ?_⟩
            repeat (first | (refine ⟨fun h => ?_, fun h => ?_⟩; rotate_left 1; (focus (exfalso; (first | (with_reducible (cases h; done)) | (revert h; simp; done) | (revert h; simp; omega) | (revert h; simp [*]; done)))); clear h) | (refine ⟨fun h => ?_, fun h => ?_⟩; (focus (exfalso; (first | (with_reducible (cases h; done)) | (revert h; simp; done) | (revert h; simp; omega) | (revert h; simp [*]; done)))); clear h))
            exact ⟨_, Ent.nil _, rfl⟩
        · skip
          refine ⟨encR h (rsP l), rfl, fun j c hb => BsR.at_ (SlR.own 3 rfl (by rw [BV_length, Nat.mul_one]) hgE2) hb, ?_⟩
          refine ⟨encR h (rsP l), rfl, fun j c hb => BsR.at_ (SlR.own 2 rfl (by rw [BV_length, Nat.mul_one]) hgE1) hb, ?_⟩
          repeat (first | (refine ⟨fun h => ?_, fun h => ?_⟩; rotate_left 1; (focus (exfalso; (first | (with_reducible (cases h; done)) | (revert h; simp; done) | (revert h; simp; omega) | (revert h; simp [*]; done)))); clear h) | (refine ⟨fun h => ?_, fun h => ?_⟩; (focus (exfalso; (first | (with_reducible (cases h; done)) | (revert h; simp; done) | (revert h; simp; omega) | (revert h; simp [*]; done)))); clear h))
          refine ⟨_, rdOff (o := 0) (n := 6) 5 rfl rfl, rfl, ?_⟩
          refine ⟨[], _, rMissing_ok _ h (.slice SA h.sums.length scap) l (some ⟨ga, 0, .none⟩) (some ⟨gq, 0, .none⟩) l.length l.length (by omega) (SlR.own 6 rfl (by unfold rsB; rw [List.length_map, Nat.mul_one]) (.inr ⟨ga, rfl⟩)), ?_⟩
          rintro _ _ ⟨MA, mc, rfl, rfl, hgM⟩
          generalize missL (l.map RSl.sl) = ms at hms hgM ⊢
          cases ms with
          | nil => exact absurd rfl hms
          | cons k r =>
            repeat (first | (refine ⟨fun h => ?_, fun h => ?_⟩; rotate_left 1; (focus (exfalso; (first | (with_reducible (cases h; done)) | (revert h; simp; done) | (revert h; simp; omega) | (revert h; simp [*]; done)))); clear h) | (refine ⟨fun h => ?_, fun h => ?_⟩; (focus (exfalso; (first | (with_reducible (cases h; done)) | (revert h; simp; done) | (revert h; simp; omega) | (revert h; simp [*]; done)))); clear h))
            refine ⟨[], _, awake42_ok _ (hG.rh _), ?_⟩
            rintro _ _ ⟨rfl, rfl⟩
            repeat (first | (refine ⟨fun h => ?_, fun h => ?_⟩; rotate_left 1; (focus (exfalso; (first | (with_reducible (cases h; done)) | (revert h; simp; done) | (revert h; simp; omega) | (revert h; simp [*]; done)))); clear h) | (refine ⟨fun h => ?_, fun h => ?_⟩; (focus (exfalso; (first | (with_reducible (cases h; done)) | (revert h; simp; done) | (revert h; simp; omega) | (revert h; simp [*]; done)))); clear h))
            refine ⟨_, ld 9 rfl rfl, ?_⟩
            repeat (first | (refine ⟨fun h => ?_, fun h => ?_⟩; rotate_left 1; (focus (exfalso; (first | (with_reducible (cases h; done)) | (revert h; simp; done) | (revert h; simp; omega) | (revert h; simp [*]; done)))); clear h) | (refine ⟨fun h => ?_, fun h => ?_⟩; (focus (exfalso; (first | (with_reducible (cases h; done)) | (revert h; simp; done) | (revert h; simp; omega) | (revert h; simp [*]; done)))); clear h))
            exact ⟨_, Ent.nil _, rfl⟩
    · intro g16
      refine ⟨rfl, rfl, 11, rfl, rfl, Nat.le_of_ble_eq_true rfl, ?_⟩
      refine ⟨[1,1,1,1,1,3,1,1], (.q 0 (.q 3 (.one 1 (.two 2 (.one 4 (.one 5 (.q 6 .nil))) 4 (.two 2 (.one 5 (.q 6 .nil)) 5 (.one 2 (.q 6 .nil))))))), by kernel_rfl, ?_⟩
      refine ⟨_, rdOff (o := 0) (n := 6) 5 rfl rfl, rfl, ?_⟩
      refine ⟨[], _, Save_ok _ hgd ((rc_own (R := R) 0 1 2 3 4 hgC hcC okS rfl rfl rfl rfl rfl).rh _), ?_⟩
      rw [hpe]
      rintro _ _ ⟨E1, ecap1, rfl, rfl, hgE1, hcE1⟩
      refine ⟨?_, ?_⟩
      · skip
        refine ⟨encR h (rsP l), rfl, fun j c hb => BsR.at_ (SlR.own 4 rfl (by rw [BV_length, Nat.mul_one]) hgE1) hb, ?_⟩
        refine ⟨[], _, rSave_ok _ h (.slice SA h.sums.length scap) l (some ⟨ga, 0, .none⟩) (some ⟨gq, 0, .none⟩) l.length l.length w ((hs.rh _).rh _) (by omega) ((SlR.own (R := R) 6 rfl (by unfold rsB; rw [List.length_map, Nat.mul_one]) (.inr ⟨ga, rfl⟩)).rh _) ((SlR.own (R := R) 7 rfl (rsC_length l) (.inr ⟨gq, rfl⟩)).rh _) (fun x hx hb => ⟨(hr.wp x hx hb).1, ((hr.wp x hx hb).2.1.rh _).rh _, ((hr.wp x hx hb).2.2.rh _).rh _⟩), ?_⟩
        rintro _ _ ⟨E2, ecap2, rfl, rfl, hgE2, hcE2⟩
        refine ⟨encR h (rsP l), rfl, fun j c hb => BsR.at_ (SlR.own 5 rfl (by rw [BV_length, Nat.mul_one]) hgE2) hb, ?_⟩
        repeat (first | (refine ⟨fun h => ?_, fun h => ?_⟩; rotate_left 1; (focus (exfalso; (first | (with_reducible (cases h; done)) | (revert h; simp; done) | (revert h; simp; omega) | (revert h; simp [*]; done)))); clear h) | (refine ⟨fun h => ?_, fun h => ?_⟩; (focus (exfalso; (first | (with_reducible (cases h; done)) | (revert h; simp; done) | (revert h; simp; omega) | (revert h; simp [*]; done)))); clear h))
        refine ⟨_, rdOff (o := 0) (n := 6) 5 rfl rfl, rfl, ?_⟩
        refine ⟨[], _, rMissing_ok _ h (.slice SA h.sums.length scap) l (some ⟨ga, 0, .none⟩) (some ⟨gq, 0, .none⟩) l.length l.length (by omega) (SlR.own 6 rfl (by unfold rsB; rw [List.length_map, Nat.mul_one]) (.inr ⟨ga, rfl⟩)), ?_⟩
        rintro _ _ ⟨MA, mc, rfl, rfl, hgM⟩
        rw [hms]
        repeat (first | (refine ⟨fun h => ?_, fun h => ?_⟩; rotate_left 1; (focus (exfalso; (first | (with_reducible (cases h; done)) | (revert h; simp; done) | (revert h; simp; omega) | (revert h; simp [*]; done)))); clear h) | (refine ⟨fun h => ?_, fun h => ?_⟩; (focus (exfalso; (first | (with_reducible (cases h; done)) | (revert h; simp; done) | (revert h; simp; omega) | (revert h; simp [*]; done)))); clear h))
        refine ⟨[5,5,5,5,5,5,5], (.one 0 (.q 1 (.q 2 (.q 3 (.q 4 (.q 5 (.q 6 (.q 7 (.q 8 (.q 9 (.q 11 (.q 12 (.one 10 (.q 13 (.one 14 (.q 15 (.q 16 .nil))))))))))))))))), by kernel_rfl, ?_⟩
        refine ⟨[], _, awake42_ok _ ((hG.rh _).rh _), ?_⟩
        rintro _ _ ⟨rfl, rfl⟩
        repeat (first | (refine ⟨fun h => ?_, fun h => ?_⟩; rotate_left 1; (focus (exfalso; (first | (with_reducible (cases h; done)) | (revert h; simp; done) | (revert h; simp; omega) | (revert h; simp [*]; done)))); clear h) | (refine ⟨fun h => ?_, fun h => ?_⟩; (focus (exfalso; (first | (with_reducible (cases h; done)) | (revert h; simp; done) | (revert h; simp; omega) | (revert h; simp [*]; done)))); clear h))
        refine ⟨_, rdOff (o := 0) (n := 4) 6 rfl rfl, rfl, ?_⟩
        repeat (first | (refine ⟨fun h => ?_, fun h => ?_⟩; rotate_left 1; (focus (exfalso; (first | (with_reducible (cases h; done)) | (revert h; simp; done) | (revert h; simp; omega) | (revert h; simp [*]; done)))); clear h) | (refine ⟨fun h => ?_, fun h => ?_⟩; (focus (exfalso; (first | (with_reducible (cases h; done)) | (revert h; simp; done) | (revert h; simp; omega) | (revert h; simp [*]; done)))); clear h))
        refine ⟨_, rdOff (o := 0) (n := 2) 3 rfl rfl, rfl, ?_⟩
        repeat (first | (refine ⟨fun h => ?_, fun h => ?_⟩; rotate_left 1; (focus (exfalso; (first | (with_reducible (cases h; done)) | (revert h; simp; done) | (revert h; simp; omega) | (revert h; simp [*]; done)))); clear h) | (refine ⟨fun h => ?_, fun h => ?_⟩; (focus (exfalso; (first | (with_reducible (cases h; done)) | (revert h; simp; done) | (revert h; simp; omega) | (revert h; simp [*]; done)))); clear h))
        refine ⟨_, rdOff (o := 0) (n := 6) 0 rfl rfl, rfl, ?_⟩
        repeat (first | (refine ⟨fun h => ?_, fun h => ?_⟩; rotate_left 1; (focus (exfalso; (first | (with_reducible (cases h; done)) | (revert h; simp; done) | (revert h; simp; omega) | (revert h; simp [*]; done)))); clear h) | (refine ⟨fun h => ?_, fun h => ?_⟩; (focus (exfalso; (first | (with_reducible (cases h; done)) | (revert h; simp; done) | (revert h; simp; omega) | (revert h; simp [*]; done)))); clear h))
        refine ⟨_, ld 3 rfl rfl, ?_⟩
        repeat (first | (refine ⟨fun h => ?_, fun h => ?_⟩; rotate_left 1; (focus (exfalso; (first | (with_reducible (cases h; done)) | (revert h; simp; done) | (revert h; simp; omega) | (revert h; simp [*]; done)))); clear h) | (refine ⟨fun h => ?_, fun h => ?_⟩; (focus (exfalso; (first | (with_reducible (cases h; done)) | (revert h; simp; done) | (revert h; simp; omega) | (revert h; simp [*]; done)))); clear h))
        refine ⟨[], _, rData_okC _ h (.slice SA h.sums.length scap) l (some ⟨ga, 0, .none⟩) (some ⟨gq, 0, .none⟩) l.length l.length (by omega) ((SlR.own (R := R) 1 rfl (by unfold rsB; rw [List.length_map, Nat.mul_one]) (.inr ⟨ga, rfl⟩)).rh _) ((SlR.own (R := R) 2 rfl (rsC_length l) (.inr ⟨gq, rfl⟩)).rh _) (fun x hx hb => ⟨(hr.wp x hx hb).1.d1, ((hr.wp x hx hb).2.1.rh _).rh _⟩), ?_⟩
        rintro _ _ ⟨HA2, hc2, rfl, rfl, hgH, hcH⟩
        repeat (first | (refine ⟨fun h => ?_, fun h => ?_⟩; rotate_left 1; (focus (exfalso; (first | (with_reducible (cases h; done)) | (revert h; simp; done) | (revert h; simp; omega) | (revert h; simp [*]; done)))); clear h) | (refine ⟨fun h => ?_, fun h => ?_⟩; (focus (exfalso; (first | (with_reducible (cases h; done)) | (revert h; simp; done) | (revert h; simp; omega) | (revert h; simp [*]; done)))); clear h))
        refine ⟨[], _, same42_ok _ ⟨h.st, h.ix, haveB (l.map RSl.sl), h.sums⟩ ⟨h.st, h.ix, haveB (l.map RSl.sl), h.sums⟩ _ _ _ _ (by show h.sums.length ≤ _; omega) ((bs_own (R := R) (l := haveB (l.map RSl.sl)) 4 rfl hgQA hcQA).rh _) ((ss_own (R := R) (l := h.sums) 5 rfl hgQB hcQB).rh _) (bs_own (l := haveB (l.map RSl.sl)) 8 rfl hgH hcH) ((hs.rh _).rh _), ?_⟩
        rintro _ _ ⟨rfl, rfl⟩
        rw [decide_eq_true (show eqPc ⟨h.st, h.ix, haveB (l.map RSl.sl), h.sums⟩ ⟨h.st, h.ix, haveB (l.map RSl.sl), h.sums⟩ from ⟨⟨rfl, rfl⟩, rfl, rfl⟩)]
        repeat (first | (refine ⟨fun h => ?_, fun h => ?_⟩; rotate_left 1; (focus (exfalso; (first | (with_reducible (cases h; done)) | (revert h; simp; done) | (revert h; simp; omega) | (revert h; simp [*]; done)))); clear h) | (refine ⟨fun h => ?_, fun h => ?_⟩; (focus (exfalso; (first | (with_reducible (cases h; done)) | (revert h; simp; done) | (revert h; simp; omega) | (revert h; simp [*]; done)))); clear h))
        exact ⟨_, Ent.nil _, rfl⟩
      · skip
        refine ⟨[], _, rSave_ok _ h (.slice SA h.sums.length scap) l (some ⟨ga, 0, .none⟩) (some ⟨gq, 0, .none⟩) l.length l.length w ((hs.rh _).rh _) (by omega) ((SlR.own (R := R) 6 rfl (by unfold rsB; rw [List.length_map, Nat.mul_one]) (.inr ⟨ga, rfl⟩)).rh _) ((SlR.own (R := R) 7 rfl (rsC_length l) (.inr ⟨gq, rfl⟩)).rh _) (fun x hx hb => ⟨(hr.wp x hx hb).1, ((hr.wp x hx hb).2.1.rh _).rh _, ((hr.wp x hx hb).2.2.rh _).rh _⟩), ?_⟩
        rintro _ _ ⟨E2, ecap2, rfl, rfl, hgE2, hcE2⟩
        refine ⟨?_, ?_⟩
        · skip
          refine ⟨encR h (rsP l), rfl, fun j c hb => BsR.at_ (SlR.own 4 rfl (by rw [BV_length, Nat.mul_one]) hgE1) hb, ?_⟩
          refine ⟨encR h (rsP l), rfl, fun j c hb => BsR.at_ (SlR.own 5 rfl (by rw [BV_length, Nat.mul_one]) hgE2) hb, ?_⟩
          repeat (first | (refine ⟨fun h => ?_, fun h => ?_⟩; rotate_left 1; (focus (exfalso; (first | (with_reducible (cases h; done)) | (revert h; simp; done) | (revert h; simp; omega) | (revert h; simp [*]; done)))); clear h) | (refine ⟨fun h => ?_, fun h => ?_⟩; (focus (exfalso; (first | (with_reducible (cases h; done)) | (revert h; simp; done) | (revert h; simp; omega) | (revert h; simp [*]; done)))); clear h))
          refine ⟨_, rdOff (o := 0) (n := 6) 5 rfl rfl, rfl, ?_⟩
          refine ⟨[], _, rMissing_ok _ h (.slice SA h.sums.length scap) l (some ⟨ga, 0, .none⟩) (some ⟨gq, 0, .none⟩) l.length l.length (by omega) (SlR.own 6 rfl (by unfold rsB; rw [List.length_map, Nat.mul_one]) (.inr ⟨ga, rfl⟩)), ?_⟩
          rintro _ _ ⟨MA, mc, rfl, rfl, hgM⟩
          rw [hms]
          repeat (first | (refine ⟨fun h => ?_, fun h => ?_⟩; rotate_left 1; (focus (exfalso; (first | (with_reducible (cases h; done)) | (revert h; simp; done) | (revert h; simp; omega) | (revert h; simp [*]; done)))); clear h) | (refine ⟨fun h => ?_, fun h => ?_⟩; (focus (exfalso; (first | (with_reducible (cases h; done)) | (revert h; simp; done) | (revert h; simp; omega) | (revert h; simp [*]; done)))); clear h))
          refine ⟨[5,5,5,5,5,5,5], (.one 0 (.q 1 (.q 2 (.q 3 (.q 4 (.q 5 (.q 6 (.q 7 (.q 8 (.q 9 (.q 11 (.q 12 (.one 10 (.q 13 (.one 14 (.q 15 (.q 16 .nil))))))))))))))))), by kernel_rfl, ?_⟩
          refine ⟨[], _, awake42_ok _ ((hG.rh _).rh _), ?_⟩
          rintro _ _ ⟨rfl, rfl⟩
          repeat (first | (refine ⟨fun h => ?_, fun h => ?_⟩; rotate_left 1; (focus (exfalso; (first | (with_reducible (cases h; done)) | (revert h; simp; done) | (revert h; simp; omega) | (revert h; simp [*]; done)))); clear h) | (refine ⟨fun h => ?_, fun h => ?_⟩; (focus (exfalso; (first | (with_reducible (cases h; done)) | (revert h; simp; done) | (revert h; simp; omega) | (revert h; simp [*]; done)))); clear h))
          refine ⟨_, rdOff (o := 0) (n := 4) 6 rfl rfl, rfl, ?_⟩
          repeat (first | (refine ⟨fun h => ?_, fun h => ?_⟩; rotate_left 1; (focus (exfalso; (first | (with_reducible (cases h; done)) | (revert h; simp; done) | (revert h; simp; omega) | (revert h; simp [*]; done)))); clear h) | (refine ⟨fun h => ?_, fun h => ?_⟩; (focus (exfalso; (first | (with_reducible (cases h; done)) | (revert h; simp; done) | (revert h; simp; omega) | (revert h; simp [*]; done)))); clear h))
          refine ⟨_, rdOff (o := 0) (n := 2) 3 rfl rfl, rfl, ?_⟩
          repeat (first | (refine ⟨fun h => ?_, fun h => ?_⟩; rotate_left 1; (focus (exfalso; (first | (with_reducible (cases h; done)) | (revert h; simp; done) | (revert h; simp; omega) | (revert h; simp [*]; done)))); clear h) | (refine ⟨fun h => ?_, fun h => ?_⟩; (focus (exfalso; (first | (with_reducible (cases h; done)) | (revert h; simp; done) | (revert h; simp; omega) | (revert h; simp [*]; done)))); clear h))
          refine ⟨_, rdOff (o := 0) (n := 6) 0 rfl rfl, rfl, ?_⟩
          repeat (first | (refine ⟨fun h => ?_, fun h => ?_⟩; rotate_left 1; (focus (exfalso; (first | (with_reducible (cases h; done)) | (revert h; simp; done) | (revert h; simp; omega) | (revert h; simp [*]; done)))); clear h) | (refine ⟨fun h => ?_, fun h => ?_⟩; (focus (exfalso; (first | (with_reducible (cases h; done)) | (revert h; simp; done) | (revert h; simp; omega) | (revert h; simp [*]; done)))); clear h))
          refine ⟨_, ld 3 rfl rfl, ?_⟩
          repeat (first | (refine ⟨fun h => ?_, fun h => ?_⟩; rotate_left 1; (focus (exfalso; (first | (with_reducible (cases h; done)) | (revert h; simp; done) | (revert h; simp; omega) | (revert h; simp [*]; done)))); clear h) | (refine ⟨fun h => ?_, fun h => ?_⟩; (focus (exfalso; (first | (with_reducible (cases h; done)) | (revert h; simp; done) | (revert h; simp; omega) | (revert h; simp [*]; done)))); clear h))
          refine ⟨[], _, rData_okC _ h (.slice SA h.sums.length scap) l (some ⟨ga, 0, .none⟩) (some ⟨gq, 0, .none⟩) l.length l.length (by omega) ((SlR.own (R := R) 1 rfl (by unfold rsB; rw [List.length_map, Nat.mul_one]) (.inr ⟨ga, rfl⟩)).rh _) ((SlR.own (R := R) 2 rfl (rsC_length l) (.inr ⟨gq, rfl⟩)).rh _) (fun x hx hb => ⟨(hr.wp x hx hb).1.d1, ((hr.wp x hx hb).2.1.rh _).rh _⟩), ?_⟩
          rintro _ _ ⟨HA2, hc2, rfl, rfl, hgH, hcH⟩
          repeat (first | (refine ⟨fun h => ?_, fun h => ?_⟩; rotate_left 1; (focus (exfalso; (first | (with_reducible (cases h; done)) | (revert h; simp; done) | (revert h; simp; omega) | (revert h; simp [*]; done)))); clear h) | (refine ⟨fun h => ?_, fun h => ?_⟩; (focus (exfalso; (first | (with_reducible (cases h; done)) | (revert h; simp; done) | (revert h; simp; omega) | (revert h; simp [*]; done)))); clear h))
          refine ⟨[], _, same42_ok _ ⟨h.st, h.ix, haveB (l.map RSl.sl), h.sums⟩ ⟨h.st, h.ix, haveB (l.map RSl.sl), h.sums⟩ _ _ _ _ (by show h.sums.length ≤ _; omega) ((bs_own (R := R) (l := haveB (l.map RSl.sl)) 4 rfl hgQA hcQA).rh _) ((ss_own (R := R) (l := h.sums) 5 rfl hgQB hcQB).rh _) (bs_own (l := haveB (l.map RSl.sl)) 8 rfl hgH hcH) ((hs.rh _).rh _), ?_⟩
          rintro _ _ ⟨rfl, rfl⟩
          rw [decide_eq_true (show eqPc ⟨h.st, h.ix, haveB (l.map RSl.sl), h.sums⟩ ⟨h.st, h.ix, haveB (l.map RSl.sl), h.sums⟩ from ⟨⟨rfl, rfl⟩, rfl, rfl⟩)]
          repeat (first | (refine ⟨fun h => ?_, fun h => ?_⟩; rotate_left 1; (focus (exfalso; (first | (with_reducible (cases h; done)) | (revert h; simp; done) | (revert h; simp; omega) | (revert h; simp [*]; done)))); clear h) | (refine ⟨fun h => ?_, fun h => ?_⟩; (focus (exfalso; (first | (with_reducible (cases h; done)) | (revert h; simp; done) | (revert h; simp; omega) | (revert h; simp [*]; done)))); clear h))
          exact ⟨_, Ent.nil _, rfl⟩
        · skip
          refine ⟨encR h (rsP l), rfl, fun j c hb => BsR.at_ (SlR.own 5 rfl (by rw [BV_length, Nat.mul_one]) hgE2) hb, ?_⟩
          refine ⟨encR h (rsP l), rfl, fun j c hb => BsR.at_ (SlR.own 4 rfl (by rw [BV_length, Nat.mul_one]) hgE1) hb, ?_⟩
          repeat (first | (refine ⟨fun h => ?_, fun h => ?_⟩; rotate_left 1; (focus (exfalso; (first | (with_reducible (cases h; done)) | (revert h; simp; done) | (revert h; simp; omega) | (revert h; simp [*]; done)))); clear h) | (refine ⟨fun h => ?_, fun h => ?_⟩; (focus (exfalso; (first | (with_reducible (cases h; done)) | (revert h; simp; done) | (revert h; simp; omega) | (revert h; simp [*]; done)))); clear h))
          refine ⟨_, rdOff (o := 0) (n := 6) 5 rfl rfl, rfl, ?_⟩
          refine ⟨[], _, rMissing_ok _ h (.slice SA h.sums.length scap) l (some ⟨ga, 0, .none⟩) (some ⟨gq, 0, .none⟩) l.length l.length (by omega) (SlR.own 6 rfl (by unfold rsB; rw [List.length_map, Nat.mul_one]) (.inr ⟨ga, rfl⟩)), ?_⟩
          rintro _ _ ⟨MA, mc, rfl, rfl, hgM⟩
          rw [hms]
          repeat (first | (refine ⟨fun h => ?_, fun h => ?_⟩; rotate_left 1; (focus (exfalso; (first | (with_reducible (cases h; done)) | (revert h; simp; done) | (revert h; simp; omega) | (revert h; simp [*]; done)))); clear h) | (refine ⟨fun h => ?_, fun h => ?_⟩; (focus (exfalso; (first | (with_reducible (cases h; done)) | (revert h; simp; done) | (revert h; simp; omega) | (revert h; simp [*]; done)))); clear h))
          refine ⟨[5,5,5,5,5,5,5], (.one 0 (.q 1 (.q 2 (.q 3 (.q 4 (.q 5 (.q 6 (.q 7 (.q 8 (.q 9 (.q 11 (.q 12 (.one 10 (.q 13 (.one 14 (.q 15 (.q 16 .nil))))))))))))))))), by kernel_rfl, ?_⟩
          refine ⟨[], _, awake42_ok _ ((hG.rh _).rh _), ?_⟩
          rintro _ _ ⟨rfl, rfl⟩
          repeat (first | (refine ⟨fun h => ?_, fun h => ?_⟩; rotate_left 1; (focus (exfalso; (first | (with_reducible (cases h; done)) | (revert h; simp; done) | (revert h; simp; omega) | (revert h; simp [*]; done)))); clear h) | (refine ⟨fun h => ?_, fun h => ?_⟩; (focus (exfalso; (first | (with_reducible (cases h; done)) | (revert h; simp; done) | (revert h; simp; omega) | (revert h; simp [*]; done)))); clear h))
          refine ⟨_, rdOff (o := 0) (n := 4) 6 rfl rfl, rfl, ?_⟩
          repeat (first | (refine ⟨fun h => ?_, fun h => ?_⟩; rotate_left 1; (focus (exfalso; (first | (with_reducible (cases h; done)) | (revert h; simp; done) | (revert h; simp; omega) | (revert h; simp [*]; done)))); clear h) | (refine ⟨fun h => ?_, fun h => ?_⟩; (focus (exfalso; (first | (with_reducible (cases h; done)) | (revert h; simp; done) | (revert h; simp; omega) | (revert h; simp [*]; done)))); clear h))
          refine ⟨_, rdOff (o := 0) (n := 2) 3 rfl rfl, rfl, ?_⟩
          repeat (first | (refine ⟨fun h => ?_, fun h => ?_⟩; rotate_left 1; (focus (exfalso; (first | (with_reducible (cases h; done)) | (revert h; simp; done) | (revert h; simp; omega) | (revert h; simp [*]; done)))); clear h) | (refine ⟨fun h => ?_, fun h => ?_⟩; (focus (exfalso; (first | (with_reducible (cases h; done)) | (revert h; simp; done) | (revert h; simp; omega) | (revert h; simp [*]; done)))); clear h))
          refine ⟨_, rdOff (o := 0) (n := 6) 0 rfl rfl, rfl, ?_⟩
          repeat (first | (refine ⟨fun h => ?_, fun h => ?_⟩; rotate_left 1; (focus (exfalso; (first | (with_reducible (cases h; done)) | (revert h; simp; done) | (revert h; simp; omega) | (revert h; simp [*]; done)))); clear h) | (refine ⟨fun h => ?_, fun h => ?_⟩; (focus (exfalso; (first | (with_reducible (cases h; done)) | (revert h; simp; done) | (revert h; simp; omega) | (revert h; simp [*]; done)))); clear h))
          refine ⟨_, ld 3 rfl rfl, ?_⟩
          repeat (first | (refine ⟨fun h => ?_, fun h => ?_⟩; rotate_left 1; (focus (exfalso; (first | (with_reducible (cases h; done)) | (revert h; simp; done) | (revert h; simp; omega) | (revert h; simp [*]; done)))); clear h) | (refine ⟨fun h => ?_, fun h => ?_⟩; (focus (exfalso; (first | (with_reducible (cases h; done)) | (revert h; simp; done) | (revert h; simp; omega) | (revert h; simp [*]; done)))); clear h))
          refine ⟨[], _, rData_okC _ h (.slice SA h.sums.length scap) l (some ⟨ga, 0, .none⟩) (some ⟨gq, 0, .none⟩) l.length l.length (by omega) ((SlR.own (R := R) 1 rfl (by unfold rsB; rw [List.length_map, Nat.mul_one]) (.inr ⟨ga, rfl⟩)).rh _) ((SlR.own (R := R) 2 rfl (rsC_length l) (.inr ⟨gq, rfl⟩)).rh _) (fun x hx hb => ⟨(hr.wp x hx hb).1.d1, ((hr.wp x hx hb).2.1.rh _).rh _⟩), ?_⟩
          rintro _ _ ⟨HA2, hc2, rfl, rfl, hgH, hcH⟩
          repeat (first | (refine ⟨fun h => ?_, fun h => ?_⟩; rotate_left 1; (focus (exfalso; (first | (with_reducible (cases h; done)) | (revert h; simp; done) | (revert h; simp; omega) | (revert h; simp [*]; done)))); clear h) | (refine ⟨fun h => ?_, fun h => ?_⟩; (focus (exfalso; (first | (with_reducible (cases h; done)) | (revert h; simp; done) | (revert h; simp; omega) | (revert h; simp [*]; done)))); clear h))
          refine ⟨[], _, same42_ok _ ⟨h.st, h.ix, haveB (l.map RSl.sl), h.sums⟩ ⟨h.st, h.ix, haveB (l.map RSl.sl), h.sums⟩ _ _ _ _ (by show h.sums.length ≤ _; omega) ((bs_own (R := R) (l := haveB (l.map RSl.sl)) 4 rfl hgQA hcQA).rh _) ((ss_own (R := R) (l := h.sums) 5 rfl hgQB hcQB).rh _) (bs_own (l := haveB (l.map RSl.sl)) 8 rfl hgH hcH) ((hs.rh _).rh _), ?_⟩
          rintro _ _ ⟨rfl, rfl⟩
          rw [decide_eq_true (show eqPc ⟨h.st, h.ix, haveB (l.map RSl.sl), h.sums⟩ ⟨h.st, h.ix, haveB (l.map RSl.sl), h.sums⟩ from ⟨⟨rfl, rfl⟩, rfl, rfl⟩)]
          repeat (first | (refine ⟨fun h => ?_, fun h => ?_⟩; rotate_left 1; (focus (exfalso; (first | (with_reducible (cases h; done)) | (revert h; simp; done) | (revert h; simp; omega) | (revert h; simp [*]; done)))); clear h) | (refine ⟨fun h => ?_, fun h => ?_⟩; (focus (exfalso; (first | (with_reducible (cases h; done)) | (revert h; simp; done) | (revert h; simp; omega) | (revert h; simp [*]; done)))); clear h))
          exact ⟨_, Ent.nil _, rfl⟩

end Go.Proofs.YtnifppnpplgghaaGreatDoor
