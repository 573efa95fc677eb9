/-
  Top: the law TopAlteredPart.
-/
import Derived.Test.YtgnmbgbiajgpeaaDoorTpd
namespace Go.Proofs.YtgnmbgbiajgpeaaDoor
open Go Go.RowKit
set_option linter.unusedVariables false
set_option linter.unusedSimpArgs false

set_option maxRecDepth 100000 in
set_option maxHeartbeats 16000000 in
theorem TopAlteredPart_law (R : Rd) (hG : ShaG R) (v0 v1 v2 : Value) (s0 : SeenV R (.int .u16) v0) (s1 : SeenV R (.sl 1 (.int .u8)) v1) (s2 : SeenV R (.sl 5 PtShpT) v2) :
    Fn Tryd.prog 5 [v0, v1, v2] [] R (fun v _ => v = .bool true) := by
  have hML := maxLen_eq
  obtain ⟨n, rfl, hn⟩ := s0.u16T
  obtain ⟨seed, hsl0, hS⟩ := s1.bsT
  obtain ⟨pl, PLA, plc, rfl, hPL, hpll, hPok⟩ := s2.partsT
  clear s0 s1 s2
  have hS' := hS
  obtain ⟨SA0, sc0, rfl, _⟩ := hS'
  refine fn_of_vc mixed tabOk Tryd.func5 rfl (by kernel_rfl) (Nat.le_of_ble_eq_true rfl) ?_
  refine ⟨[], _, Awake21_ok _ (hG.rh _), ?_⟩
  rintro _ _ ⟨rfl, rfl⟩
  repeat (first | (refine ⟨fun h => ?_, fun h => ?_⟩; rotate_left 1; (focus (exfalso; (first | (with_reducible (cases h; done)) | (revert h; simp; done) | (revert h; simp; omega) | (revert h; simp [*]; done)))); clear h) | (refine ⟨fun h => ?_, fun h => ?_⟩; (focus (exfalso; (first | (with_reducible (cases h; done)) | (revert h; simp; done) | (revert h; simp; omega) | (revert h; simp [*]; done)))); clear h))
  by_cases h1 : (1500 : Int) < n
  · repeat (first | (refine ⟨fun h => ?_, fun h => ?_⟩; rotate_left 1; (focus (exfalso; (first | (with_reducible (cases h; done)) | (revert h; simp; done) | (revert h; simp; omega) | (revert h; simp [*]; done)))); clear h) | (refine ⟨fun h => ?_, fun h => ?_⟩; (focus (exfalso; (first | (with_reducible (cases h; done)) | (revert h; simp; done) | (revert h; simp; omega) | (revert h; simp [*]; done)))); clear h))
    refine ⟨[], _, Awake21_ok _ (hG.rh _), ?_⟩
    rintro _ _ ⟨rfl, rfl⟩
    exact ⟨_, Ent.nil _, rfl⟩
  repeat (first | (refine ⟨fun h => ?_, fun h => ?_⟩; rotate_left 1; (focus (exfalso; (first | (with_reducible (cases h; done)) | (revert h; simp; done) | (revert h; simp; omega) | (revert h; simp [*]; done)))); clear h) | (refine ⟨fun h => ?_, fun h => ?_⟩; (focus (exfalso; (first | (with_reducible (cases h; done)) | (revert h; simp; done) | (revert h; simp; omega) | (revert h; simp [*]; done)))); clear h))
  by_cases h2 : (6 : Int) < pl.length
  · repeat (first | (refine ⟨fun h => ?_, fun h => ?_⟩; rotate_left 1; (focus (exfalso; (first | (with_reducible (cases h; done)) | (revert h; simp; done) | (revert h; simp; omega) | (revert h; simp [*]; done)))); clear h) | (refine ⟨fun h => ?_, fun h => ?_⟩; (focus (exfalso; (first | (with_reducible (cases h; done)) | (revert h; simp; done) | (revert h; simp; omega) | (revert h; simp [*]; done)))); clear h))
    refine ⟨[], _, Awake21_ok _ (hG.rh _), ?_⟩
    rintro _ _ ⟨rfl, rfl⟩
    exact ⟨_, Ent.nil _, rfl⟩
  repeat (first | (refine ⟨fun h => ?_, fun h => ?_⟩; rotate_left 1; (focus (exfalso; (first | (with_reducible (cases h; done)) | (revert h; simp; done) | (revert h; simp; omega) | (revert h; simp [*]; done)))); clear h) | (refine ⟨fun h => ?_, fun h => ?_⟩; (focus (exfalso; (first | (with_reducible (cases h; done)) | (revert h; simp; done) | (revert h; simp; omega) | (revert h; simp [*]; done)))); clear h))
  by_cases h3 : (100 : Int) < seed.length
  · repeat (first | (refine ⟨fun h => ?_, fun h => ?_⟩; rotate_left 1; (focus (exfalso; (first | (with_reducible (cases h; done)) | (revert h; simp; done) | (revert h; simp; omega) | (revert h; simp [*]; done)))); clear h) | (refine ⟨fun h => ?_, fun h => ?_⟩; (focus (exfalso; (first | (with_reducible (cases h; done)) | (revert h; simp; done) | (revert h; simp; omega) | (revert h; simp [*]; done)))); clear h))
    refine ⟨[], _, Awake21_ok _ (hG.rh _), ?_⟩
    rintro _ _ ⟨rfl, rfl⟩
    exact ⟨_, Ent.nil _, rfl⟩
  repeat (first | (refine ⟨fun h => ?_, fun h => ?_⟩; rotate_left 1; (focus (exfalso; (first | (with_reducible (cases h; done)) | (revert h; simp; done) | (revert h; simp; omega) | (revert h; simp [*]; done)))); clear h) | (refine ⟨fun h => ?_, fun h => ?_⟩; (focus (exfalso; (first | (with_reducible (cases h; done)) | (revert h; simp; done) | (revert h; simp; omega) | (revert h; simp [*]; done)))); clear h))
  refine ⟨[], _, Name15_ok _ 4 4, ?_⟩
  rintro _ _ ⟨rfl, rfl⟩
  (intro z hz; obtain rfl : z = ((n : Nat) : Int) := (by first | (rw [IntKind.wrap_i64] at hz; omega) | (rw [IntKind.wrap_u64] at hz; omega) | omega); clear hz)
  intro g7
  refine ⟨rfl, rfl, 0, rfl, rfl, Nat.le_of_ble_eq_true rfl, ?_⟩
  obtain ⟨x, hx⟩ : ∃ x : RefD, x = ⟨nm15 4 4, 0, (n : Nat)⟩ := ⟨_, rfl⟩
  have hgr : GoodRefs [x] := by
    constructor
    · show 1 ≤ 1000; decide
    · intro r hr; rw [List.mem_singleton.1 hr, hx]; rfl
    · intro r hr; rw [List.mem_singleton.1 hr, hx]; exact Int.le_refl 0
    · intro r hr; rw [List.mem_singleton.1 hr, hx]; show (0 : Int) ≤ (n : Nat); omega
    · intro r hr; rw [List.mem_singleton.1 hr, hx]; show ((n : Nat) : Int) ≤ 32768; omega
    · simp
  have hcx : ∀ r ∈ [x], clsF r.sz.toNat = clsF n := fun r hr => by
    rw [List.mem_singleton.1 hr, hx]
    show clsF ((n : Nat) : Int).toNat = _
    rw [Int.toNat_natCast]
  refine ⟨x.cells, rdOff (o := 0) (n := 3) 0 rfl (by rw [hx]; rfl), by rw [hx]; rfl, ?_⟩
  refine ⟨by rw [hx]; rfl, fun g8 => ?_⟩
  refine ⟨[], _, Pack1_ok _ x _ hgr (SlR.own 1 (by rw [hx]; rfl) rfl (.inr ⟨g8, rfl⟩)), ?_⟩
  rintro _ _ ⟨u0, ids, C0, rfl, rfl, a0, c0, B, bc, rfl, hCB, hRf⟩
  repeat (first | (refine ⟨fun h => ?_, fun h => ?_⟩; rotate_left 1; (focus (exfalso; (first | (with_reducible (cases h; done)) | (revert h; simp; done) | (revert h; simp; omega) | (revert h; simp [*]; done)))); clear h) | (refine ⟨fun h => ?_, fun h => ?_⟩; (focus (exfalso; (first | (with_reducible (cases h; done)) | (revert h; simp; done) | (revert h; simp; omega) | (revert h; simp [*]; done)))); clear h))
  (intro z hz; obtain rfl : z = ((n : Nat) : Int) := (by first | (rw [IntKind.wrap_i64] at hz; omega) | (rw [IntKind.wrap_u64] at hz; omega) | omega); clear hz)
  have hcv : clsV ((n : Nat) : Int) = (clsF n, 0) := by rw [clsV_in (by omega) (by omega), Int.toNat_natCast]
  have hsp := clsF_spec (n := n) (by omega)
  refine ⟨[], _, Class_ok _ ((n : Nat) : Int) (by omega), ?_⟩
  rw [hcv]
  generalize clsF n = cl at hsp hcx ⊢
  rintro _ _ ⟨rfl, rfl⟩
  have hstl := strmL_length seed 1 cl
  have hBk : BlkR [strmL seed 1 cl] cl := ⟨by omega, by omega, fun y hy => by rw [List.mem_singleton.1 hy]; exact hstl⟩
  refine ⟨[2], .cut (.q 0 (.q 1 (.q 2 (.q 3 (.q 4 (.two 5 (.two 6 (.two 7 (.q 8 (.q 9 (.q 10 (.q 11 (.one 12 (.one 13 (.q 14 (.q 15 .nil)))))))) 12 (.one 7 (.q 8 (.q 9 (.q 10 (.q 11 (.one 13 (.q 14 (.q 15 .nil))))))))) 12 (.one 6 (.one 7 (.q 8 (.q 9 (.q 10 (.q 11 (.one 13 (.q 14 (.q 15 .nil)))))))))) 12 (.one 5 (.one 6 (.one 7 (.q 8 (.q 9 (.q 10 (.q 11 (.one 13 (.q 14 (.q 15 .nil)))))))))))))))), by kernel_rfl, [none, none, none, none, none, none, none, none, none, none, none, none, some 12, some 13, some 14, none, none, none, none, none, none, none, none, none, none, none, none, none, none, none, none, none, none, none, none, none, none, none, none, none, none, none, none, none, none, none, none, none, none, none, none, none, none, none, none, none, none, none, none, none, none, none, none, none, none, none, none, none, none, none, none, none, none, none, some 74, some 75, some 76, some 77, some 78, some 79, some 80, some 81, some 82, some 83, some 84, some 85], ?_⟩
  refine ⟨[12, 13, 14], Nat × Value × Value × List Nat × Rd, fun ⟨g, u, Rf, ids, C⟩ => PcsR C u (pcsE (rsE 1 2 [strmL seed 1 cl] cl)) ∧ RefsR C Rf [x], fun ⟨g, u, Rf, ids, C⟩ => [.pointer (some ⟨g, 0, .none⟩), u, .int .i64 0],
    fun ⟨g, u, Rf, ids, C⟩ => [.ro ids C, .blk g 35 (stpC (mkSt 1 2 cl [strmL seed 1 cl]) Rf)], ?_, ?_⟩
  · refine ⟨by decide, by decide, a0, rfl, ?_⟩
    refine ⟨_, ro_rh 0 rfl _ _ hCB, ?_⟩
    refine ⟨?_, ?_⟩
    · refine ⟨[], _, Stream15_ok _ seed 1 cl _ (by omega) (by omega) (by omega) ((hS.x.rh _).rh _), ?_⟩
      rintro _ _ ⟨g9, rfl, rfl⟩
      refine ⟨?_, ?_⟩
      · refine ⟨rfl, fun g10 => ?_⟩
        refine ⟨?_, ?_⟩
        · refine ⟨[], _, Make_ok (s := true) _ ((hG.rh _).rh _) 1 2 cl [strmL seed 1 cl] [x] _ _ (by decide) (by decide) (by decide) (by decide) (Nat.le_refl _) (Nat.le_refl _) hBk rfl hgr hcx (hRf.mono fun a v h => .inl (ro_rh 0 rfl a v h)) (one_blk 3 2 hstl.symm rfl rfl), ?_⟩
          rintro _ _ ⟨u, Rf, ids1, C1, rfl, rfl, hu, hR1⟩
          have hR' := hR1
          obtain ⟨_, Ar, cr, rfl, _⟩ := hR'
          intro gs
          refine ⟨rfl, rfl, 5, rfl, rfl, Nat.le_of_ble_eq_true rfl, ?_⟩
          exact ⟨rfl, (gs, u, _, ids1, C1), ⟨hu, hR1⟩, ⟨rfl, rfl, rfl, trivial⟩, Ent.pick [4, 4] rfl, rfl⟩
        · intro gs
          refine ⟨[], _, Make_ok (s := true) _ ((hG.rh _).rh _) 1 2 cl [strmL seed 1 cl] [x] _ _ (by decide) (by decide) (by decide) (by decide) (Nat.le_refl _) (Nat.le_refl _) hBk rfl hgr hcx (hRf.mono fun a v h => .inl (ro_rh 0 rfl a v h)) (one_blk 3 2 hstl.symm rfl rfl), ?_⟩
          rintro _ _ ⟨u, Rf, ids1, C1, rfl, rfl, hu, hR1⟩
          have hR' := hR1
          obtain ⟨_, Ar, cr, rfl, _⟩ := hR'
          refine ⟨rfl, rfl, 4, rfl, rfl, Nat.le_of_ble_eq_true rfl, ?_⟩
          exact ⟨rfl, (gs, u, _, ids1, C1), ⟨hu, hR1⟩, ⟨rfl, rfl, rfl, trivial⟩, Ent.pick [5, 4] rfl, rfl⟩
      · intro gs
        refine ⟨rfl, fun g10 => ?_⟩
        refine ⟨[], _, Make_ok (s := true) _ ((hG.rh _).rh _) 1 2 cl [strmL seed 1 cl] [x] _ _ (by decide) (by decide) (by decide) (by decide) (Nat.le_refl _) (Nat.le_refl _) hBk rfl hgr hcx (hRf.mono fun a v h => .inl (ro_rh 0 rfl a v h)) (one_blk 4 2 hstl.symm rfl rfl), ?_⟩
        rintro _ _ ⟨u, Rf, ids1, C1, rfl, rfl, hu, hR1⟩
        have hR' := hR1
        obtain ⟨_, Ar, cr, rfl, _⟩ := hR'
        refine ⟨rfl, rfl, 3, rfl, rfl, Nat.le_of_ble_eq_true rfl, ?_⟩
        exact ⟨rfl, (gs, u, _, ids1, C1), ⟨hu, hR1⟩, ⟨rfl, rfl, rfl, trivial⟩, Ent.pick [5, 3] rfl, rfl⟩
    · intro gs
      refine ⟨[], _, Stream15_ok _ seed 1 cl _ (by omega) (by omega) (by omega) ((hS.x.rh _).rh _), ?_⟩
      rintro _ _ ⟨g9, rfl, rfl⟩
      refine ⟨rfl, fun g10 => ?_⟩
      refine ⟨[], _, Make_ok (s := true) _ ((hG.rh _).rh _) 1 2 cl [strmL seed 1 cl] [x] _ _ (by decide) (by decide) (by decide) (by decide) (Nat.le_refl _) (Nat.le_refl _) hBk rfl hgr hcx (hRf.mono fun a v h => .inl (ro_rh 0 rfl a v h)) (one_blk 4 3 hstl.symm rfl rfl), ?_⟩
      rintro _ _ ⟨u, Rf, ids1, C1, rfl, rfl, hu, hR1⟩
      have hR' := hR1
      obtain ⟨_, Ar, cr, rfl, _⟩ := hR'
      refine ⟨rfl, rfl, 2, rfl, rfl, Nat.le_of_ble_eq_true rfl, ?_⟩
      exact ⟨rfl, (gs, u, _, ids1, C1), ⟨hu, hR1⟩, ⟨rfl, rfl, rfl, trivial⟩, Ent.pick [5, 2] rfl, rfl⟩
  rintro ⟨gs, u, Rf, ids1, C1⟩ ⟨hu, hR1⟩ js
  have hu' := hu
  obtain ⟨Au, cu, lu, rfl, _⟩ := hu'
  have hR' := hR1
  obtain ⟨_, Ar, cr, rfl, _⟩ := hR'
  have hLl := rsE_length 1 2 [strmL seed 1 cl] cl
  have hgs1 : GoodSt (mkSt 1 2 cl [strmL seed 1 cl]) [x] := mk_good (by decide) (by decide) (by decide) (by decide) (Nat.le_refl _) (Nat.le_refl _) rfl hgr hcx
  have hfp : FitP (mkSt 1 2 cl [strmL seed 1 cl]) (pcI (rsE 1 2 [strmL seed 1 cl] cl) 1) := mk_fits (by decide) (by decide) (by decide) (by decide) (Nat.le_refl _) hBk (by decide)
  have hp1 : (pcsE (rsE 1 2 [strmL seed 1 cl] cl))[1]? = some (pcI (rsE 1 2 [strmL seed 1 cl] cl) 1) := pcsE_get (by omega)
  have hpl : (pcsE (rsE 1 2 [strmL seed 1 cl] cl)).length = 2 := by rw [pcsE_length, hLl]
  generalize pcI (rsE 1 2 [strmL seed 1 cl] cl) 1 = p at hfp hp1
  generalize mkSt 1 2 cl [strmL seed 1 cl] = st at hgs1 hfp ⊢
  rw [hpl] at hu ⊢
  repeat (first | (refine ⟨fun h => ?_, fun h => ?_⟩; rotate_left 1; (focus (exfalso; (first | (with_reducible (cases h; done)) | (revert h; simp; done) | (revert h; simp; omega) | (revert h; simp [*]; done)))); clear h) | (refine ⟨fun h => ?_, fun h => ?_⟩; (focus (exfalso; (first | (with_reducible (cases h; done)) | (revert h; simp; done) | (revert h; simp; omega) | (revert h; simp [*]; done)))); clear h))
  obtain ⟨a, PD, PS, rfl, hra, hPD, hPS⟩ := hu.at_ hp1
  have w := hfp.2.2.2
  have hpsn : p.sums.length ≤ 16 := w.wf.n2
  have hpdn : (p.dt.length : Int) ≤ 65536 := w.wf.s1
  obtain ⟨PA, pc, rfl, hpc, hpdr⟩ := (show Bs C1 PD p.dt from hPD)
  obtain ⟨QA, qc, rfl, hqc, hqsr⟩ := (show Ss C1 PS p.sums from hPS)
  clear hu hp1
  refine ⟨by decide, by decide, a, rfl, ?_⟩
  refine ⟨_, fun j u h => ro_rh 1 rfl _ _ (rdn (i := 1) hra j u h), rfl, ?_⟩
  clear hra
  intro gpp
  refine ⟨rfl, rfl, 3, rfl, rfl, Nat.le_of_ble_eq_true rfl, ?_⟩
  refine ⟨_, rdOff (o := 0) (n := 4) 3 rfl rfl, rfl, ?_⟩
  refine ⟨[], _, NewSender_ok _ (hG.rh _) p _ _ (hPD.mono (ro_rh 1 rfl)) (hPS.mono (ro_rh 1 rfl)), ?_⟩
  rintro _ _ (⟨hno, _⟩ | ⟨_, gsd, rfl, SC, scc, SD, scd, hg1, hc1, hg2, hc2, rfl⟩)
  · exact absurd w hno
  repeat (first | (refine ⟨fun h => ?_, fun h => ?_⟩; rotate_left 1; (focus (exfalso; (first | (with_reducible (cases h; done)) | (revert h; simp; done) | (revert h; simp; omega) | (revert h; simp [*]; done)))); clear h) | (refine ⟨fun h => ?_, fun h => ?_⟩; (focus (exfalso; (first | (with_reducible (cases h; done)) | (revert h; simp; done) | (revert h; simp; omega) | (revert h; simp [*]; done)))); clear h))
  refine ⟨[], _, SHead_ok _ (by omega) (sd_own 4 5 6 hg1 hc1 hg2 hc2 rfl rfl rfl), ?_⟩
  rintro _ _ ⟨HC, hcc, rfl, rfl, hgH, hcH⟩
  refine ⟨[], _, NewReceiver_ok _ (hG.rh _) p.hd _ (ss_own 7 rfl hgH hcH), ?_⟩
  rintro _ _ (⟨hno, _⟩ | ⟨_, hno, _⟩ | ⟨_, _, gr, rfl, C, cc, gdd, gp, sl, hgC, hcC, okS, hslE, rfl⟩)
  · exact absurd w.wf hno
  · exact absurd w.root hno
  refine ⟨_, ld 3 rfl rfl, ?_⟩
  refine ⟨[], _, Blocks_ok _ (hG.rh _) p.dt PA pc 512 (by decide) (by omega) hpc (SlR.mono hpdr (ro_rh 1 rfl)), ?_⟩
  rintro _ _ ⟨LA, lk, lcap, L, rfl, hgL, hkL, hcL, hcc1⟩
  rcases hcc1 with ⟨c, _⟩ | ⟨_, rfl, hLe⟩
  · exact absurd c (by decide)
  have hLe : L = blockLeaves 512 p.dt := hLe
  have hsmL : Small L := by rw [hLe]; exact blockLeaves_small (by omega)
  repeat (first | (refine ⟨fun h => ?_, fun h => ?_⟩; rotate_left 1; (focus (exfalso; (first | (with_reducible (cases h; done)) | (revert h; simp; done) | (revert h; simp; omega) | (revert h; simp [*]; done)))); clear h) | (refine ⟨fun h => ?_, fun h => ?_⟩; (focus (exfalso; (first | (with_reducible (cases h; done)) | (revert h; simp; done) | (revert h; simp; omega) | (revert h; simp [*]; done)))); clear h))
  refine ⟨_, rdOff (o := 0) (n := 6) 2 rfl rfl, rfl, ?_⟩
  repeat (first | (refine ⟨fun h => ?_, fun h => ?_⟩; rotate_left 1; (focus (exfalso; (first | (with_reducible (cases h; done)) | (revert h; simp; done) | (revert h; simp; omega) | (revert h; simp [*]; done)))); clear h) | (refine ⟨fun h => ?_, fun h => ?_⟩; (focus (exfalso; (first | (with_reducible (cases h; done)) | (revert h; simp; done) | (revert h; simp; omega) | (revert h; simp [*]; done)))); clear h))
  refine ⟨_, rdOff (o := 0) (n := 4) 3 rfl rfl, rfl, ?_⟩
  repeat (first | (refine ⟨fun h => ?_, fun h => ?_⟩; rotate_left 1; (focus (exfalso; (first | (with_reducible (cases h; done)) | (revert h; simp; done) | (revert h; simp; omega) | (revert h; simp [*]; done)))); clear h) | (refine ⟨fun h => ?_, fun h => ?_⟩; (focus (exfalso; (first | (with_reducible (cases h; done)) | (revert h; simp; done) | (revert h; simp; omega) | (revert h; simp [*]; done)))); clear h))
  refine ⟨[], _, SFits_ok _ (hG.rh _) st [x] p _ _ _ hgs1 (hR1.mono (ro_rh 1 rfl)) (hPD.mono (ro_rh 1 rfl)) (hPS.mono (ro_rh 1 rfl)), ?_⟩
  rw [decide_eq_true hfp]
  rintro _ _ ⟨rfl, rfl⟩
  repeat (first | (refine ⟨fun h => ?_, fun h => ?_⟩; rotate_left 1; (focus (exfalso; (first | (with_reducible (cases h; done)) | (revert h; simp; done) | (revert h; simp; omega) | (revert h; simp [*]; done)))); clear h) | (refine ⟨fun h => ?_, fun h => ?_⟩; (focus (exfalso; (first | (with_reducible (cases h; done)) | (revert h; simp; done) | (revert h; simp; omega) | (revert h; simp [*]; done)))); clear h))
  have hts0 : TrueS p (sl.map Sl.pl) := by
    rw [hslE]
    show TrueS p (List.replicate (partsN ((p.dt.length : Nat) : Int).toNat) .none)
    rw [Int.toNat_natCast]; exact TrueS.new w
  clear hslE hfp hgs1 hR1 hgH hcH
  refine ⟨[none, none, none, none, none, none, some 6, none, none, none, none, none, none, none, none, none, none, none, none, none, none, none, none, some 23, none, some 25, some 26, some 27, none, none, none, none, none, none, none, none, none, none, none, none, none, none, none, none, none, none, none, none, none, none, none, none, none, none, none, none, none, none, none, none, none, none, none, none, none, none, none, none, none, none, none, none, none, none, none, none, none, none, none, none, none, none, none, none, none, none, none, none, none, none, none, none, none, none, none, none, none, none, none, none, none, none, none, none, none, none, none, none, none, none, none, none, none, none, none, none, none, none, none, none, none, none, none, none, none, none, none, none, none, none, none, none, none, some 133, some 134, some 135, some 136, some 137, some 138, some 139, some 140, some 141, some 142, some 143, some 144, some 145, some 146, some 147, some 148, some 149, some 150, some 151, some 152, some 153, some 154, some 155, some 156, some 157, some 158, some 159, some 160, some 161, some 162, some 163, some 164, some 165, some 166, some 167, some 168, some 169, some 170, some 171, some 172, some 173, some 174, some 175, some 176, some 177, some 178, some 179, some 180, some 181, some 182, some 183, some 184, some 185, some 186, some 187, some 188, some 189, some 190, some 191, some 192, some 193, some 194, some 195, some 196, some 197, some 198, some 199, some 200, some 201, some 202, some 203, some 204, some 205, some 206, some 207, some 208, some 209, some 210, some 211, some 212, some 213, some 214, some 215, some 216, some 217, some 218, some 219, some 220, some 221, some 222, some 223, some 224], [133], Nat × (Option Addr × Nat × Nat × Nat × List Sl), fun ⟨k, (C, cc, gdd, gp, sl)⟩ => k ≤ pl.length ∧ (grow p.hd.sums.length C ∧ p.hd.sums.length ≤ cc ∧ ∀ s ∈ sl, SlOk s) ∧ TrueS p (sl.map Sl.pl), fun ⟨k, _⟩ => [.int .i64 k],
    fun ⟨k, (C, cc, gdd, gp, sl)⟩ => [.ro ids1 C1, .blk gpp 28 (pcC p (.slice PA p.dt.length pc) (.slice QA p.sums.length qc)), .blk gsd 99 (hdC p.hd (.slice SC p.sums.length scc) ++ [.slice SD p.dt.length scd]), .row SC p.sums.length scc 9 1 (SV p.sums) (0, 0), .row SD p.dt.length scd 5 1 (BV p.dt) (0, 0), .blk gr 105 (rcC p.hd C cc gdd gp sl.length), .row C p.hd.sums.length cc 9 1 (SV p.hd.sums) (0, 0), .row (some ⟨gdd, 0, .none⟩) sl.length sl.length 25 1 (sl.map Sl.dv) (0, 0), .row (some ⟨gp, 0, .none⟩) sl.length sl.length 26 1 (sl.map Sl.pv) (0, 0), .rows (rowsS sl), .row LA lk lcap 9 1 (SV L) (0, 0)], fun ⟨k, _⟩ => pl.length - k, (0, (C, cc, gdd, gp, sl)), ⟨Nat.zero_le _, ⟨hgC, hcC, okS⟩, hts0⟩, ⟨rfl, trivial⟩, Ent.pick [1, 2, 2, 2, 2, 3, 3, 3, 3, 3, 3] rfl, ?_⟩
  clear hgC hcC okS hts0
  rintro ⟨k, C, cc, gdd, gp, sl⟩ ⟨hk, ⟨hgC, hcC, okS⟩, hts⟩ js1
  have hk : k ≤ pl.length := hk
  have hgC : grow p.hd.sums.length C := hgC
  have hcC : p.hd.sums.length ≤ cc := hcC
  have okS : ∀ s ∈ sl, SlOk s := okS
  have hts : TrueS p (sl.map Sl.pl) := hts
  by_cases dk : k < pl.length
  · repeat (first | (refine ⟨fun h => ?_, fun h => ?_⟩; rotate_left 1; (focus (exfalso; (first | (with_reducible (cases h; done)) | (revert h; simp; done) | (revert h; simp; omega) | (revert h; simp [*]; done)))); clear h) | (refine ⟨fun h => ?_, fun h => ?_⟩; (focus (exfalso; (first | (with_reducible (cases h; done)) | (revert h; simp; done) | (revert h; simp; omega) | (revert h; simp [*]; done)))); clear h))
    obtain ⟨e, he⟩ : ∃ e, pl[k]? = some e := ⟨_, List.getElem?_eq_getElem dk⟩
    have hok := hPok e (List.mem_of_getElem? he)
    obtain ⟨a1, hA1, hra1⟩ := pte_at hPL he
    obtain ⟨⟨xst, xix, xoff, xdt, xpath⟩, XD, XP⟩ := e
    obtain ⟨hxd, hxs, hxo⟩ := hok
    have hxd : Bs R XD xdt := hxd
    have hxs : Ss R XP xpath := hxs
    have hxo : I64T xoff := hxo
    obtain ⟨XA, xac, rfl, hxac, hxdr⟩ := (show Bs R XD xdt from hxd)
    obtain ⟨XB, xbc, rfl, hxbc, hxpr⟩ := (show Ss R XP xpath from hxs)
    refine ⟨by omega, by omega, a1, hA1, ?_⟩
    refine ⟨_, fun j u h => .inl (rdn hra1 j u h), rfl, ?_⟩
    clear hra1 he
    intro gx
    refine ⟨rfl, rfl, 11, rfl, rfl, Nat.le_of_ble_eq_true rfl, ?_⟩
    refine ⟨_, ld 11 rfl rfl, ?_⟩
    by_cases c1 : (600 : Int) < xdt.length
    · repeat (first | (refine ⟨fun h => ?_, fun h => ?_⟩; rotate_left 1; (focus (exfalso; (first | (with_reducible (cases h; done)) | (revert h; simp; done) | (revert h; simp; omega) | (revert h; simp [*]; done)))); clear h) | (refine ⟨fun h => ?_, fun h => ?_⟩; (focus (exfalso; (first | (with_reducible (cases h; done)) | (revert h; simp; done) | (revert h; simp; omega) | (revert h; simp [*]; done)))); clear h))
      exact ⟨_, Ent.nil _, rfl⟩
    repeat (first | (refine ⟨fun h => ?_, fun h => ?_⟩; rotate_left 1; (focus (exfalso; (first | (with_reducible (cases h; done)) | (revert h; simp; done) | (revert h; simp; omega) | (revert h; simp [*]; done)))); clear h) | (refine ⟨fun h => ?_, fun h => ?_⟩; (focus (exfalso; (first | (with_reducible (cases h; done)) | (revert h; simp; done) | (revert h; simp; omega) | (revert h; simp [*]; done)))); clear h))
    refine ⟨_, ld 11 rfl rfl, ?_⟩
    repeat (first | (refine ⟨fun h => ?_, fun h => ?_⟩; rotate_left 1; (focus (exfalso; (first | (with_reducible (cases h; done)) | (revert h; simp; done) | (revert h; simp; omega) | (revert h; simp [*]; done)))); clear h) | (refine ⟨fun h => ?_, fun h => ?_⟩; (focus (exfalso; (first | (with_reducible (cases h; done)) | (revert h; simp; done) | (revert h; simp; omega) | (revert h; simp [*]; done)))); clear h))
    by_cases c2 : (8 : Int) < xpath.length
    · repeat (first | (refine ⟨fun h => ?_, fun h => ?_⟩; rotate_left 1; (focus (exfalso; (first | (with_reducible (cases h; done)) | (revert h; simp; done) | (revert h; simp; omega) | (revert h; simp [*]; done)))); clear h) | (refine ⟨fun h => ?_, fun h => ?_⟩; (focus (exfalso; (first | (with_reducible (cases h; done)) | (revert h; simp; done) | (revert h; simp; omega) | (revert h; simp [*]; done)))); clear h))
      exact ⟨_, Ent.nil _, rfl⟩
    repeat (first | (refine ⟨fun h => ?_, fun h => ?_⟩; rotate_left 1; (focus (exfalso; (first | (with_reducible (cases h; done)) | (revert h; simp; done) | (revert h; simp; omega) | (revert h; simp [*]; done)))); clear h) | (refine ⟨fun h => ?_, fun h => ?_⟩; (focus (exfalso; (first | (with_reducible (cases h; done)) | (revert h; simp; done) | (revert h; simp; omega) | (revert h; simp [*]; done)))); clear h))
    refine ⟨_, ld 11 rfl rfl, ?_⟩
    refine ⟨[none, none, none, none, none, none, some 6, none, none, none, none, none, none, none, none, none, none, none, none, none, none, none, none, none, none, some 25, none, none, none, none, none, none, none, none, none, none, none, none, none, none, none, none, none, none, none, none, none, none, none, none, none, none, none, none, none, none, none, none, none, none, none, none, none, none, none, none, none, none, none, none, none, none, none, none, none, none, none, none, none, none, none, none, none, none, none, none, none, none, none, none, none, none, none, none, none, none, none, none, none, none, none, none, none, none, none, none, none, none, none, none, none, none, none, none, none, none, none, none, none, none, none, none, none, none, none, none, none, none, none, none, none, none, none, none, none, none, none, none, none, none, none, none, none, none, none, none, none, none, none, none, some 150, some 151, some 152, some 153, some 154, some 155, some 156, some 157], [150], Nat, fun j => j ≤ xpath.length, fun j => [.int .i64 j],
      fun j => [.ro ids1 C1, .blk gpp 28 (pcC p (.slice PA p.dt.length pc) (.slice QA p.sums.length qc)), .blk gsd 99 (hdC p.hd (.slice SC p.sums.length scc) ++ [.slice SD p.dt.length scd]), .row SC p.sums.length scc 9 1 (SV p.sums) (0, 0), .row SD p.dt.length scd 5 1 (BV p.dt) (0, 0), .blk gr 105 (rcC p.hd C cc gdd gp sl.length), .row C p.hd.sums.length cc 9 1 (SV p.hd.sums) (0, 0), .row (some ⟨gdd, 0, .none⟩) sl.length sl.length 25 1 (sl.map Sl.dv) (0, 0), .row (some ⟨gp, 0, .none⟩) sl.length sl.length 26 1 (sl.map Sl.pv) (0, 0), .rows (rowsS sl), .row LA lk lcap 9 1 (SV L) (0, 0), .blk gx 68 (ptC ⟨xst, xix, xoff, xdt, xpath⟩ (.slice XA xdt.length xac) (.slice XB xpath.length xbc))], fun j => xpath.length - j, 0, Nat.zero_le _, ⟨rfl, trivial⟩, Ent.refl _, ?_⟩
    intro j hj js2
    have hj : j ≤ xpath.length := hj
    by_cases dj : j < xpath.length
    · repeat (first | (refine ⟨fun h => ?_, fun h => ?_⟩; rotate_left 1; (focus (exfalso; (first | (with_reducible (cases h; done)) | (revert h; simp; done) | (revert h; simp; omega) | (revert h; simp [*]; done)))); clear h) | (refine ⟨fun h => ?_, fun h => ?_⟩; (focus (exfalso; (first | (with_reducible (cases h; done)) | (revert h; simp; done) | (revert h; simp; omega) | (revert h; simp [*]; done)))); clear h))
      obtain ⟨y, hyA, hy⟩ := hxpr.one dj
      generalize xpath.getD j [] = yy at hy
      refine ⟨by omega, by omega, y, hyA, _, .inl hy, ?_⟩
      by_cases c3 : (64 : Int) < yy.length
      · repeat (first | (refine ⟨fun h => ?_, fun h => ?_⟩; rotate_left 1; (focus (exfalso; (first | (with_reducible (cases h; done)) | (revert h; simp; done) | (revert h; simp; omega) | (revert h; simp [*]; done)))); clear h) | (refine ⟨fun h => ?_, fun h => ?_⟩; (focus (exfalso; (first | (with_reducible (cases h; done)) | (revert h; simp; done) | (revert h; simp; omega) | (revert h; simp [*]; done)))); clear h))
        exact ⟨_, Ent.nil _, rfl⟩
      repeat (first | (refine ⟨fun h => ?_, fun h => ?_⟩; rotate_left 1; (focus (exfalso; (first | (with_reducible (cases h; done)) | (revert h; simp; done) | (revert h; simp; omega) | (revert h; simp [*]; done)))); clear h) | (refine ⟨fun h => ?_, fun h => ?_⟩; (focus (exfalso; (first | (with_reducible (cases h; done)) | (revert h; simp; done) | (revert h; simp; omega) | (revert h; simp [*]; done)))); clear h))
      (intro z hz; obtain rfl : z = ((j + 1 : Nat) : Int) := (by first | (rw [IntKind.wrap_i64] at hz; omega) | (rw [IntKind.wrap_u64] at hz; omega) | omega); clear hz)
      exact ⟨rfl, j + 1, dj, by show xpath.length - (j + 1) < xpath.length - j; omega, ⟨rfl, trivial⟩, Ent.refl _, rfl⟩
    repeat (first | (refine ⟨fun h => ?_, fun h => ?_⟩; rotate_left 1; (focus (exfalso; (first | (with_reducible (cases h; done)) | (revert h; simp; done) | (revert h; simp; omega) | (revert h; simp [*]; done)))); clear h) | (refine ⟨fun h => ?_, fun h => ?_⟩; (focus (exfalso; (first | (with_reducible (cases h; done)) | (revert h; simp; done) | (revert h; simp; omega) | (revert h; simp [*]; done)))); clear h))
    clear dj hj
    refine ⟨_, rdOff (o := 0) (n := 5) 11 rfl rfl, rfl, ?_⟩
    obtain ⟨X, hX⟩ : ∃ X : Pt, X = ⟨xst, xix, xoff, xdt, xpath⟩ := ⟨_, rfl⟩
    have hts2 : (recvE p.hd (sl.map Sl.pl) X = 0 → X.dt = blockOf p.dt 512 (X.off.toNat / 512)) → TrueS p (recvS p.hd (sl.map Sl.pl) X) := hts.recv X
    refine ⟨[5, 5, 5, 5, 5], _, Receive_ok (h := p.hd) (sls := sl.map Sl.pl) _ (hG.rh _) ⟨xst, xix, xoff, xdt, xpath⟩ _ _ ⟨C, cc, gdd, gp, sl, hgC, hcC, okS, rfl, rfl⟩ hts.gd hxo.lo hxo.hi (by show xdt.length ≤ _; omega) (by show xpath.length ≤ _; omega) (hxd.rh _) (hxs.rh _), ?_⟩
    rw [← hX]
    rintro _ _ ⟨rfl, C2, cc2, gdd2, gp2, sl2, hgC2, hcC2, okS2, hsl2, rfl⟩
    by_cases c4 : recvE p.hd (sl.map Sl.pl) X = 0
    case neg =>
      have hts2 := hts2 fun h => absurd h c4
      repeat (first | (refine ⟨fun h => ?_, fun h => ?_⟩; rotate_left 1; (focus (exfalso; (first | (with_reducible (cases h; done)) | (revert h; simp; done) | (revert h; simp; omega) | (revert h; simp [*]; done)))); clear h) | (refine ⟨fun h => ?_, fun h => ?_⟩; (focus (exfalso; (first | (with_reducible (cases h; done)) | (revert h; simp; done) | (revert h; simp; omega) | (revert h; simp [*]; done)))); clear h))
      (intro z hz; obtain rfl : z = ((k + 1 : Nat) : Int) := (by first | (rw [IntKind.wrap_i64] at hz; omega) | (rw [IntKind.wrap_u64] at hz; omega) | omega); clear hz)
      refine ⟨rfl, (k + 1, (C2, cc2, gdd2, gp2, sl2)), ⟨dk, ⟨hgC2, hcC2, okS2⟩, by rw [hsl2]; exact hts2⟩, by show pl.length - (k + 1) < pl.length - k; omega, ⟨rfl, trivial⟩, Ent.pick [0, 0, 0, 0, 0, 2, 2, 2, 2, 2, 0] rfl, rfl⟩
    obtain ⟨⟨q1, _, _⟩, _, q2⟩ := recv_at c4
    rw [hX] at q1 q2
    have q1 : thereB ((p.dt.length : Nat) : Int) xoff = true := q1
    obtain ⟨m1, m2, m3⟩ := there_mul q1
    have q2 : seeB (p.sums.getD p.ix.toNat []) ((p.dt.length : Nat) : Int) 512 ((xoff.toNat / 512 : Nat) : Int) xdt xpath = true := q2
    obtain ⟨hacc, hsp2, hdl⟩ := acc_of_see w m2 q2
    have hts2 : xdt = blockOf p.dt 512 (xoff.toNat / 512) → TrueS p (recvS p.hd (sl.map Sl.pl) X) := fun h => hts2 fun _ => by rw [hX]; exact h
    clear q1 q2
    obtain ⟨m, hm⟩ : ∃ m, m = xoff.toNat / 512 := ⟨_, rfl⟩
    rw [← hm] at m1 m2 m3 hacc hdl hts2
    clear hm
    have hsub := hpdr.sub (l := m * 512) (h := min p.dt.length (m * 512 + 512)) (by omega) (by omega) hpc
    rw [← block_sub] at hsub
    have hbl : (blockOf p.dt 512 m).length = min p.dt.length (m * 512 + 512) - m * 512 := by rw [blockOf_length]; omega
    obtain ⟨wt, hwt⟩ : ∃ wt, wt = blockOf p.dt 512 m := ⟨_, rfl⟩
    rw [← hwt] at hsub hbl hts2
    repeat (first | (refine ⟨fun h => ?_, fun h => ?_⟩; rotate_left 1; (focus (exfalso; (first | (with_reducible (cases h; done)) | (revert h; simp; done) | (revert h; simp; omega) | (revert h; simp [*]; done)))); clear h) | (refine ⟨fun h => ?_, fun h => ?_⟩; (focus (exfalso; (first | (with_reducible (cases h; done)) | (revert h; simp; done) | (revert h; simp; omega) | (revert h; simp [*]; done)))); clear h))
    subst hX
    subst m1
    refine ⟨_, ld 6 rfl rfl, ?_⟩
    repeat (first | (refine ⟨fun h => ?_, fun h => ?_⟩; rotate_left 1; (focus (exfalso; (first | (with_reducible (cases h; done)) | (revert h; simp; done) | (revert h; simp; omega) | (revert h; simp [*]; done)))); clear h) | (refine ⟨fun h => ?_, fun h => ?_⟩; (focus (exfalso; (first | (with_reducible (cases h; done)) | (revert h; simp; done) | (revert h; simp; omega) | (revert h; simp [*]; done)))); clear h))
    refine ⟨_, ld 6 rfl rfl, ?_⟩
    repeat (first | (refine ⟨fun h => ?_, fun h => ?_⟩; rotate_left 1; (focus (exfalso; (first | (with_reducible (cases h; done)) | (revert h; simp; done) | (revert h; simp; omega) | (revert h; simp [*]; done)))); clear h) | (refine ⟨fun h => ?_, fun h => ?_⟩; (focus (exfalso; (first | (with_reducible (cases h; done)) | (revert h; simp; done) | (revert h; simp; omega) | (revert h; simp [*]; done)))); clear h))
    refine ⟨_, ld 1 rfl rfl, ?_⟩
    repeat (first | (refine ⟨fun h => ?_, fun h => ?_⟩; rotate_left 1; (focus (exfalso; (first | (with_reducible (cases h; done)) | (revert h; simp; done) | (revert h; simp; omega) | (revert h; simp [*]; done)))); clear h) | (refine ⟨fun h => ?_, fun h => ?_⟩; (focus (exfalso; (first | (with_reducible (cases h; done)) | (revert h; simp; done) | (revert h; simp; omega) | (revert h; simp [*]; done)))); clear h))
    refine ⟨_, ld 6 rfl rfl, ?_⟩
    repeat (first | (refine ⟨fun h => ?_, fun h => ?_⟩; rotate_left 1; (focus (exfalso; (first | (with_reducible (cases h; done)) | (revert h; simp; done) | (revert h; simp; omega) | (revert h; simp [*]; done)))); clear h) | (refine ⟨fun h => ?_, fun h => ?_⟩; (focus (exfalso; (first | (with_reducible (cases h; done)) | (revert h; simp; done) | (revert h; simp; omega) | (revert h; simp [*]; done)))); clear h))
    refine ⟨by decide, ?_⟩
    intro z hz
    obtain rfl : z = 0 := by have := rem_nat (a := m * 512) (b := 512) rfl hz; omega
    clear hz
    repeat (first | (refine ⟨fun h => ?_, fun h => ?_⟩; rotate_left 1; (focus (exfalso; (first | (with_reducible (cases h; done)) | (revert h; simp; done) | (revert h; simp; omega) | (revert h; simp [*]; done)))); clear h) | (refine ⟨fun h => ?_, fun h => ?_⟩; (focus (exfalso; (first | (with_reducible (cases h; done)) | (revert h; simp; done) | (revert h; simp; omega) | (revert h; simp [*]; done)))); clear h))
    refine ⟨_, ld 1 rfl rfl, ?_⟩
    refine ⟨_, ld 6 rfl rfl, ?_⟩
    refine ⟨_, ld 1 rfl rfl, ?_⟩
    refine ⟨_, ld 6 rfl rfl, ?_⟩
    intro z hz
    have hz : z = IntKind.i64.wrap (((m * 512 : Nat) : Int) + 512) := hz
    rw [IntKind.wrap_i64] at hz
    obtain rfl : z = ((m * 512 + 512 : Nat) : Int) := by omega
    clear hz
    (intro z hz; obtain rfl : z = ((min p.dt.length (m * 512 + 512) : Nat) : Int) := (by first | (rw [IntKind.wrap_i64] at hz; omega) | (rw [IntKind.wrap_u64] at hz; omega) | omega); clear hz)
    refine ⟨m * 512, min p.dt.length (m * 512 + 512), rfl, rfl, by omega, by omega, ?_⟩
    rw [← hbl] at hsub ⊢
    have hwl : wt.length ≤ 512 := by omega
    have hwc : wt.length ≤ pc - m * 512 := by omega
    refine ⟨_, ld 6 rfl rfl, ?_⟩
    refine ⟨xdt, rfl, fun j b hb => (hxdr.rh _).at_ hb, ?_⟩
    refine ⟨wt, rfl, fun j b hb => BsR.at_ (SlR.mono hsub (ro_rh 0 rfl)) hb, ?_⟩
    by_cases c5 : xdt = wt
    · have hts2 := hts2 c5
      repeat (first | (refine ⟨fun h => ?_, fun h => ?_⟩; rotate_left 1; (focus (exfalso; (first | (with_reducible (cases h; done)) | (revert h; simp; done) | (revert h; simp; omega) | (revert h; simp [*]; done)))); clear h) | (refine ⟨fun h => ?_, fun h => ?_⟩; (focus (exfalso; (first | (with_reducible (cases h; done)) | (revert h; simp; done) | (revert h; simp; omega) | (revert h; simp [*]; done)))); clear h))
      (intro z hz; obtain rfl : z = ((k + 1 : Nat) : Int) := (by first | (rw [IntKind.wrap_i64] at hz; omega) | (rw [IntKind.wrap_u64] at hz; omega) | omega); clear hz)
      refine ⟨rfl, (k + 1, (C2, cc2, gdd2, gp2, sl2)), ⟨dk, ⟨hgC2, hcC2, okS2⟩, by rw [hsl2]; exact hts2⟩, by show pl.length - (k + 1) < pl.length - k; omega, ⟨rfl, trivial⟩, Ent.pick [0, 0, 0, 0, 0, 2, 2, 2, 2, 2, 0] rfl, rfl⟩
    repeat (first | (refine ⟨fun h => ?_, fun h => ?_⟩; rotate_left 1; (focus (exfalso; (first | (with_reducible (cases h; done)) | (revert h; simp; done) | (revert h; simp; omega) | (revert h; simp [*]; done)))); clear h) | (refine ⟨fun h => ?_, fun h => ?_⟩; (focus (exfalso; (first | (with_reducible (cases h; done)) | (revert h; simp; done) | (revert h; simp; omega) | (revert h; simp [*]; done)))); clear h))
    refine ⟨_, ld 6 rfl rfl, ?_⟩
    refine ⟨[], _, Leaf_ok _ (hG.rh _) xdt XA xac (by omega) hxac (hxdr.rh _), ?_⟩
    obtain ⟨lx, hlx⟩ : ∃ y, y = leafOf xdt := ⟨_, rfl⟩
    rw [← hlx] at hacc ⊢
    rintro _ _ ⟨rfl, rfl⟩
    refine ⟨_, ld 6 rfl rfl, ?_⟩
    refine ⟨by decide, ?_⟩
    intro z hz
    obtain rfl : z = ((m : Nat) : Int) := by have := quo_nat (a := m * 512) (b := 512) rfl (by omega) hz; omega
    clear hz
    refine ⟨_, ld 6 rfl rfl, ?_⟩
    have hsmP : Small xpath.reverse.reverse := by rw [List.reverse_reverse]; exact wf_small (by omega) hsp2
    refine ⟨[], _, Reaches21_ok xpath.reverse _ (hG.rh _) L lx m _ _ (by rw [hLe]; exact hacc) hsmL (Ss.own 5 rfl hkL hgL hcL) hsmP (by rw [List.reverse_reverse]; exact hxs.rh _), ?_⟩
    rintro _ _ ⟨rfl, rfl⟩
    repeat (first | (refine ⟨fun h => ?_, fun h => ?_⟩; rotate_left 1; (focus (exfalso; (first | (with_reducible (cases h; done)) | (revert h; simp; done) | (revert h; simp; omega) | (revert h; simp [*]; done)))); clear h) | (refine ⟨fun h => ?_, fun h => ?_⟩; (focus (exfalso; (first | (with_reducible (cases h; done)) | (revert h; simp; done) | (revert h; simp; omega) | (revert h; simp [*]; done)))); clear h))
    refine ⟨[], _, Leaf_ok _ (hG.rh _) wt _ (pc - m * 512) (by omega) hwc (SlR.mono hsub (ro_rh 0 rfl)), ?_⟩
    obtain ⟨lw, hlw⟩ : ∃ y, y = leafOf wt := ⟨_, rfl⟩
    rw [← hlw]
    rintro _ _ ⟨rfl, rfl⟩
    by_cases c6 : lx = lw
    case neg =>
      repeat (first | (refine ⟨fun h => ?_, fun h => ?_⟩; rotate_left 1; (focus (exfalso; (first | (with_reducible (cases h; done)) | (revert h; simp; done) | (revert h; simp; omega) | (revert h; simp [*]; done)))); clear h) | (refine ⟨fun h => ?_, fun h => ?_⟩; (focus (exfalso; (first | (with_reducible (cases h; done)) | (revert h; simp; done) | (revert h; simp; omega) | (revert h; simp [*]; done)))); clear h))
      exact ⟨_, Ent.nil _, rfl⟩
    repeat (first | (refine ⟨fun h => ?_, fun h => ?_⟩; rotate_left 1; (focus (exfalso; (first | (with_reducible (cases h; done)) | (revert h; simp; done) | (revert h; simp; omega) | (revert h; simp [*]; done)))); clear h) | (refine ⟨fun h => ?_, fun h => ?_⟩; (focus (exfalso; (first | (with_reducible (cases h; done)) | (revert h; simp; done) | (revert h; simp; omega) | (revert h; simp [*]; done)))); clear h))
    refine ⟨_, ld 6 rfl rfl, ?_⟩
    repeat (first | (refine ⟨fun h => ?_, fun h => ?_⟩; rotate_left 1; (focus (exfalso; (first | (with_reducible (cases h; done)) | (revert h; simp; done) | (revert h; simp; omega) | (revert h; simp [*]; done)))); clear h) | (refine ⟨fun h => ?_, fun h => ?_⟩; (focus (exfalso; (first | (with_reducible (cases h; done)) | (revert h; simp; done) | (revert h; simp; omega) | (revert h; simp [*]; done)))); clear h))
    refine ⟨xdt, rfl, fun j b hb => (hxdr.rh _).at_ hb, ?_⟩
    repeat (first | (refine ⟨fun h => ?_, fun h => ?_⟩; rotate_left 1; (focus (exfalso; (first | (with_reducible (cases h; done)) | (revert h; simp; done) | (revert h; simp; omega) | (revert h; simp [*]; done)))); clear h) | (refine ⟨fun h => ?_, fun h => ?_⟩; (focus (exfalso; (first | (with_reducible (cases h; done)) | (revert h; simp; done) | (revert h; simp; omega) | (revert h; simp [*]; done)))); clear h))
    refine ⟨by rw [maxLen_eq]; show 1 + xdt.length ≤ _; omega, ?_⟩
    repeat (first | (refine ⟨fun h => ?_, fun h => ?_⟩; rotate_left 1; (focus (exfalso; (first | (with_reducible (cases h; done)) | (revert h; simp; done) | (revert h; simp; omega) | (revert h; simp [*]; done)))); clear h) | (refine ⟨fun h => ?_, fun h => ?_⟩; (focus (exfalso; (first | (with_reducible (cases h; done)) | (revert h; simp; done) | (revert h; simp; omega) | (revert h; simp [*]; done)))); clear h))
    refine ⟨wt, rfl, fun j b hb => BsR.at_ (SlR.mono hsub (ro_rh 0 rfl)) hb, ?_⟩
    repeat (first | (refine ⟨fun h => ?_, fun h => ?_⟩; rotate_left 1; (focus (exfalso; (first | (with_reducible (cases h; done)) | (revert h; simp; done) | (revert h; simp; omega) | (revert h; simp [*]; done)))); clear h) | (refine ⟨fun h => ?_, fun h => ?_⟩; (focus (exfalso; (first | (with_reducible (cases h; done)) | (revert h; simp; done) | (revert h; simp; omega) | (revert h; simp [*]; done)))); clear h))
    refine ⟨by rw [maxLen_eq]; show 1 + wt.length ≤ _; omega, ?_⟩
    repeat (first | (refine ⟨fun h => ?_, fun h => ?_⟩; rotate_left 1; (focus (exfalso; (first | (with_reducible (cases h; done)) | (revert h; simp; done) | (revert h; simp; omega) | (revert h; simp [*]; done)))); clear h) | (refine ⟨fun h => ?_, fun h => ?_⟩; (focus (exfalso; (first | (with_reducible (cases h; done)) | (revert h; simp; done) | (revert h; simp; omega) | (revert h; simp [*]; done)))); clear h))
    have hcol : (0 :: xdt : Str) ≠ 0 :: wt ∧ sha (0 :: xdt) = sha (0 :: wt) := ⟨fun h => c5 (List.cons.inj h).2, (hlx.symm.trans c6).trans hlw⟩
    refine ⟨[], _, Collides15_ok _ (hG.rh _) (0 :: xdt) (0 :: wt) (by rw [List.length_cons]; omega) (by rw [List.length_cons]; omega), ?_⟩
    rintro _ _ ⟨rfl, rfl⟩
    rw [decide_eq_true hcol]
    repeat (first | (refine ⟨fun h => ?_, fun h => ?_⟩; rotate_left 1; (focus (exfalso; (first | (with_reducible (cases h; done)) | (revert h; simp; done) | (revert h; simp; omega) | (revert h; simp [*]; done)))); clear h) | (refine ⟨fun h => ?_, fun h => ?_⟩; (focus (exfalso; (first | (with_reducible (cases h; done)) | (revert h; simp; done) | (revert h; simp; omega) | (revert h; simp [*]; done)))); clear h))
    exact ⟨_, Ent.nil _, rfl⟩
  repeat (first | (refine ⟨fun h => ?_, fun h => ?_⟩; rotate_left 1; (focus (exfalso; (first | (with_reducible (cases h; done)) | (revert h; simp; done) | (revert h; simp; omega) | (revert h; simp [*]; done)))); clear h) | (refine ⟨fun h => ?_, fun h => ?_⟩; (focus (exfalso; (first | (with_reducible (cases h; done)) | (revert h; simp; done) | (revert h; simp; omega) | (revert h; simp [*]; done)))); clear h))
  obtain rfl : k = pl.length := by omega
  have hsln : sl.length ≤ 1000000 := by
    have := hts.len
    rw [List.length_map] at this
    rw [this]; unfold partsN; omega
  refine ⟨[], _, Missing_ok42 _ hsln (rc_own 5 6 7 8 9 hgC hcC okS rfl rfl rfl rfl rfl), ?_⟩
  have hms := hts.miss
  have hlfn : (missI (sl.map Sl.pl)).length ≤ 1000000 := by
    unfold missI
    refine Nat.le_trans (List.length_filter_le _ _) ?_
    rw [List.length_range, List.length_map]; exact hsln
  rw [missL_map]
  generalize missI (sl.map Sl.pl) = lf at hms hlfn ⊢
  rintro _ _ ⟨MA, mc, rfl, rfl, hgM⟩
  have hml : (lf.map (· * 512)).length = lf.length := List.length_map _
  rw [hml] at hgM ⊢
  clear hts hsln
  refine ⟨[none, none, none, none, none, none, some 6, none, none, none, none, none, none, none, none, none, none, none, none, none, none, none, none, none, none, none, none, none, none, some 29, some 30, some 31, none, none, none, none, none, none, none, none, none, none, none, none, none, none, none, none, none, none, none, none, none, none, none, none, none, none, none, none, none, none, none, none, none, none, none, none, none, none, none, none, none, none, none, none, none, none, none, none, none, none, none, none, none, none, none, none, none, none, none, none, none, none, none, none, none, none, none, none, none, none, none, none, none, none, none, none, none, none, none, none, none, none, none, none, none, none, none, none, none, none, none, none, none, none, none, none, none, none, none, none, none, none, none, none, none, none, none, none, none, none, none, none, none, none, none, none, none, none, none, none, none, none, none, none, none, none, none, none, none, none, none, none, none, none, none, none, none, none, none, none, none, none, none, none, none, none, none, none, none, none, none, none, none, none, none, none, none, none, none, none, none, none, none, none, none, none, none, none, none, none, none, none, none, none, none, none, none, none, none, none, none, none, none, none, none, none, none, none, none, none, none, none, none, none, none, none, some 228, some 229, some 230, some 231, some 232, some 233, some 234, some 235, some 236, some 237, some 238, some 239, some 240, some 241, some 242, some 243, some 244, some 245, some 246], [228], Nat × (Option Addr × Nat × Nat × Nat × List Sl), fun ⟨m, (C, cc, gdd, gp, sl)⟩ => m ≤ lf.length ∧ (grow p.hd.sums.length C ∧ p.hd.sums.length ≤ cc ∧ ∀ s ∈ sl, SlOk s) ∧ MissS p (lf.drop m) (sl.map Sl.pl), fun ⟨m, _⟩ => [.int .i64 m],
    fun ⟨m, (C, cc, gdd, gp, sl)⟩ => [.ro ids1 C1, .blk gpp 28 (pcC p (.slice PA p.dt.length pc) (.slice QA p.sums.length qc)), .blk gsd 99 (hdC p.hd (.slice SC p.sums.length scc) ++ [.slice SD p.dt.length scd]), .row SC p.sums.length scc 9 1 (SV p.sums) (0, 0), .row SD p.dt.length scd 5 1 (BV p.dt) (0, 0), .blk gr 105 (rcC p.hd C cc gdd gp sl.length), .row C p.hd.sums.length cc 9 1 (SV p.hd.sums) (0, 0), .row (some ⟨gdd, 0, .none⟩) sl.length sl.length 25 1 (sl.map Sl.dv) (0, 0), .row (some ⟨gp, 0, .none⟩) sl.length sl.length 26 1 (sl.map Sl.pv) (0, 0), .rows (rowsS sl), .row MA lf.length mc 3 1 (NV (lf.map (· * 512))) (0, 0)], fun ⟨m, _⟩ => lf.length - m, (0, (C, cc, gdd, gp, sl)), ⟨Nat.zero_le _, ⟨hgC, hcC, okS⟩, hms⟩, ⟨rfl, trivial⟩, Ent.pick [0, 0, 0, 0, 0, 0, 0, 0, 0, 0, 1] rfl, ?_⟩
  clear hgC hcC okS hms
  rintro ⟨m, C, cc, gdd, gp, sl⟩ ⟨hm, ⟨hgC, hcC, okS⟩, hms⟩ js3
  have hm : m ≤ lf.length := hm
  have hgC : grow p.hd.sums.length C := hgC
  have hcC : p.hd.sums.length ≤ cc := hcC
  have okS : ∀ s ∈ sl, SlOk s := okS
  have hms : MissS p (lf.drop m) (sl.map Sl.pl) := hms
  by_cases dm : m < lf.length
  · repeat (first | (refine ⟨fun h => ?_, fun h => ?_⟩; rotate_left 1; (focus (exfalso; (first | (with_reducible (cases h; done)) | (revert h; simp; done) | (revert h; simp; omega) | (revert h; simp [*]; done)))); clear h) | (refine ⟨fun h => ?_, fun h => ?_⟩; (focus (exfalso; (first | (with_reducible (cases h; done)) | (revert h; simp; done) | (revert h; simp; omega) | (revert h; simp [*]; done)))); clear h))
    obtain ⟨q, rfl⟩ := growA hgM (by omega)
    obtain ⟨y, hy⟩ : ∃ y, lf[m]? = some y := ⟨_, List.getElem?_eq_getElem dm⟩
    have hdr : lf.drop m = y :: lf.drop (m + 1) := by
      obtain ⟨hlt, he⟩ := List.getElem?_eq_some_iff.1 hy
      rw [List.drop_eq_getElem_cons hlt, he]
    have hget : (NV (lf.map (· * 512)))[m]? = some (.int .i64 ((y * 512 : Nat) : Int)) := by
      unfold NV
      rw [List.getElem?_map, List.getElem?_map, hy]; rfl
    rw [hdr] at hms
    have hyl := hms.lt y (by simp)
    have hst := hms.step w
    have hth := part_thereT hyl
    have hoff := part_offT p y
    have hpdl := part_dt_leT p y
    have hppl := part_path_leT p y
    have hyn : y < 1000 := by unfold partsN at hyl; omega
    refine ⟨by omega, by omega, _, rfl, ?_⟩
    refine ⟨_, ldr1 10 rfl hget, ?_⟩
    refine ⟨[], _, SPart_ok _ (hG.rh _) (by omega) ((y * 512 : Nat) : Int) (by omega) (by omega) (sd_own 2 3 4 hg1 hc1 hg2 hc2 rfl rfl rfl), ?_⟩
    have hth : thereB p.dt.length ((y * 512 : Nat) : Int) = true := hth
    have hoff : ((y * 512 : Nat) : Int).toNat / 512 = y := hoff
    have hof1 : -9223372036854775808 ≤ (partAt p y).off := by show (-9223372036854775808 : Int) ≤ ((y * 512 : Nat) : Int); omega
    have hof2 : (partAt p y).off ≤ 9223372036854775807 := by show ((y * 512 : Nat) : Int) ≤ 9223372036854775807; omega
    have hpd2 : (partAt p y).dt.length ≤ 1000000000 := by omega
    have hpp2 : (partAt p y).path.length ≤ 1000000000 := by omega
    rw [hth, hoff]
    generalize partAt p y = X at hst hof1 hof2 hpd2 hpp2 ⊢
    rintro _ _ (⟨hno, _⟩ | ⟨_, A1, cap1, B1, cb1, rfl, rfl, hgA, hcA, hgB, hcB⟩)
    · cases hno
    intro g30
    refine ⟨rfl, rfl, 13, rfl, rfl, Nat.le_of_ble_eq_true rfl, ?_⟩
    repeat (first | (refine ⟨fun h => ?_, fun h => ?_⟩; rotate_left 1; (focus (exfalso; (first | (with_reducible (cases h; done)) | (revert h; simp; done) | (revert h; simp; omega) | (revert h; simp [*]; done)))); clear h) | (refine ⟨fun h => ?_, fun h => ?_⟩; (focus (exfalso; (first | (with_reducible (cases h; done)) | (revert h; simp; done) | (revert h; simp; omega) | (revert h; simp [*]; done)))); clear h))
    refine ⟨_, rdOff (o := 0) (n := 5) 13 rfl rfl, rfl, ?_⟩
    repeat (first | (refine ⟨fun h => ?_, fun h => ?_⟩; rotate_left 1; (focus (exfalso; (first | (with_reducible (cases h; done)) | (revert h; simp; done) | (revert h; simp; omega) | (revert h; simp [*]; done)))); clear h) | (refine ⟨fun h => ?_, fun h => ?_⟩; (focus (exfalso; (first | (with_reducible (cases h; done)) | (revert h; simp; done) | (revert h; simp; omega) | (revert h; simp [*]; done)))); clear h))
    refine ⟨[5, 5, 5, 5, 5], _, Receive_ok (h := p.hd) (sls := sl.map Sl.pl) _ (hG.rh _) X _ _ ⟨C, cc, gdd, gp, sl, hgC, hcC, okS, rfl, rfl⟩ hms.ts.gd hof1 hof2 hpd2 hpp2 (bs_own 6 rfl hgA hcA) (ss_own 7 rfl hgB hcB), ?_⟩
    rw [hst.1]
    rintro _ _ ⟨rfl, C2, cc2, gdd2, gp2, sl2, hgC2, hcC2, okS2, hsl2, rfl⟩
    repeat (first | (refine ⟨fun h => ?_, fun h => ?_⟩; rotate_left 1; (focus (exfalso; (first | (with_reducible (cases h; done)) | (revert h; simp; done) | (revert h; simp; omega) | (revert h; simp [*]; done)))); clear h) | (refine ⟨fun h => ?_, fun h => ?_⟩; (focus (exfalso; (first | (with_reducible (cases h; done)) | (revert h; simp; done) | (revert h; simp; omega) | (revert h; simp [*]; done)))); clear h))
    (intro z hz; obtain rfl : z = ((m + 1 : Nat) : Int) := (by first | (rw [IntKind.wrap_i64] at hz; omega) | (rw [IntKind.wrap_u64] at hz; omega) | omega); clear hz)
    exact ⟨rfl, (m + 1, (C2, cc2, gdd2, gp2, sl2)), ⟨dm, ⟨hgC2, hcC2, okS2⟩, by rw [hsl2]; exact hst.2⟩, by show lf.length - (m + 1) < lf.length - m; omega, ⟨rfl, trivial⟩, Ent.pick [0, 0, 0, 0, 0, 4, 4, 4, 4, 4, 0] rfl, rfl⟩
  repeat (first | (refine ⟨fun h => ?_, fun h => ?_⟩; rotate_left 1; (focus (exfalso; (first | (with_reducible (cases h; done)) | (revert h; simp; done) | (revert h; simp; omega) | (revert h; simp [*]; done)))); clear h) | (refine ⟨fun h => ?_, fun h => ?_⟩; (focus (exfalso; (first | (with_reducible (cases h; done)) | (revert h; simp; done) | (revert h; simp; omega) | (revert h; simp [*]; done)))); clear h))
  obtain rfl : m = lf.length := by omega
  rw [List.drop_length] at hms
  obtain ⟨hnil, hdd⟩ := hms.done
  have ep : (⟨p.hd.st, p.hd.ix, haveB (sl.map Sl.pl), p.hd.sums⟩ : Pc) = p := by rw [hdd]; rfl
  have hsln : sl.length ≤ 1000000 := by
    have := hms.ts.len
    rw [List.length_map] at this
    rw [this]; unfold partsN; omega
  refine ⟨[], _, Piece_ok42 _ hsln (by show p.sums.length ≤ _; omega) (by rw [hdd]; omega) (rc_own 5 6 7 8 9 hgC hcC okS rfl rfl rfl rfl rfl), ?_⟩
  rw [ep]
  rintro _ _ (⟨hno, _⟩ | ⟨_, PA2, pca, PB2, pcb, rfl, rfl, hgPA, hcPA, hgPB, hcPB⟩)
  · exact absurd hnil hno
  intro g32
  refine ⟨rfl, rfl, 13, rfl, rfl, Nat.le_of_ble_eq_true rfl, ?_⟩
  repeat (first | (refine ⟨fun h => ?_, fun h => ?_⟩; rotate_left 1; (focus (exfalso; (first | (with_reducible (cases h; done)) | (revert h; simp; done) | (revert h; simp; omega) | (revert h; simp [*]; done)))); clear h) | (refine ⟨fun h => ?_, fun h => ?_⟩; (focus (exfalso; (first | (with_reducible (cases h; done)) | (revert h; simp; done) | (revert h; simp; omega) | (revert h; simp [*]; done)))); clear h))
  refine ⟨_, rdOff (o := 0) (n := 4) 1 rfl rfl, rfl, ?_⟩
  repeat (first | (refine ⟨fun h => ?_, fun h => ?_⟩; rotate_left 1; (focus (exfalso; (first | (with_reducible (cases h; done)) | (revert h; simp; done) | (revert h; simp; omega) | (revert h; simp [*]; done)))); clear h) | (refine ⟨fun h => ?_, fun h => ?_⟩; (focus (exfalso; (first | (with_reducible (cases h; done)) | (revert h; simp; done) | (revert h; simp; omega) | (revert h; simp [*]; done)))); clear h))
  refine ⟨_, rdOff (o := 0) (n := 4) 13 rfl rfl, rfl, ?_⟩
  repeat (first | (refine ⟨fun h => ?_, fun h => ?_⟩; rotate_left 1; (focus (exfalso; (first | (with_reducible (cases h; done)) | (revert h; simp; done) | (revert h; simp; omega) | (revert h; simp [*]; done)))); clear h) | (refine ⟨fun h => ?_, fun h => ?_⟩; (focus (exfalso; (first | (with_reducible (cases h; done)) | (revert h; simp; done) | (revert h; simp; omega) | (revert h; simp [*]; done)))); clear h))
  refine ⟨[], _, Same15_ok _ p p _ _ _ _ (by omega) (hPD.mono (ro_rh 0 rfl)) (hPS.mono (ro_rh 0 rfl)) (bs_own 11 rfl hgPA hcPA) (ss_own 12 rfl hgPB hcPB), ?_⟩
  rintro _ _ ⟨rfl, rfl⟩
  rw [decide_eq_true (show sameP p p from ⟨⟨rfl, rfl⟩, rfl, rfl⟩)]
  repeat (first | (refine ⟨fun h => ?_, fun h => ?_⟩; rotate_left 1; (focus (exfalso; (first | (with_reducible (cases h; done)) | (revert h; simp; done) | (revert h; simp; omega) | (revert h; simp [*]; done)))); clear h) | (refine ⟨fun h => ?_, fun h => ?_⟩; (focus (exfalso; (first | (with_reducible (cases h; done)) | (revert h; simp; done) | (revert h; simp; omega) | (revert h; simp [*]; done)))); clear h))
  exact ⟨_, Ent.nil _, rfl⟩

end Go.Proofs.YtgnmbgbiajgpeaaDoor
