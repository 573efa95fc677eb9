/-
  Top: the contract of a15Awake.
-/
import Derived.Test.YtgnmbgbiajgpeaaDoorToj
namespace Go.Proofs.YtgnmbgbiajgpeaaDoor
open Go Go.RowKit
set_option linter.unusedVariables false
set_option linter.unusedSimpArgs false

theorem rsE_lens {data total len : Nat} {bl : List Str} (h1 : 1 ≤ data) (h8 : data ≤ 8) (hdt : data ≤ total) (h16 : total ≤ 16) (hb2 : bl.length ≤ data) (hB : BlkR bl len) : ∀ x ∈ rsE data total bl len, x.length = len := by
  have hpl : (padL bl data len).length = data := by unfold padL; rw [List.length_append, List.length_replicate]; omega
  refine combL_lens (rowsT_mat h8 (by omega) h16) hpl fun x hx => ?_
  rcases List.mem_append.1 hx with hx | hx
  · exact hB.all x hx
  · rw [(List.mem_replicate.1 hx).2]; unfold zerB; rw [List.length_replicate]
theorem pcI_valid {L : List Str} {len i : Nat} (h16 : L.length ≤ 16) (hi : i < L.length) (hx : ∀ x ∈ L, x.length = len) (hl1 : 1 ≤ len) (hl2 : len ≤ 65536) : VPc (pcI L i) := by
  have hg : L[i]? = some (L.getD i []) := by rw [List.getD_eq_getElem?_getD, List.getElem?_eq_getElem hi]; rfl
  have hd : (L.getD i []).length = len := hx _ (List.mem_of_getElem? hg)
  have hs := sumsE_length L
  refine ⟨⟨by show 1 ≤ (sumsE L).length; omega, by show (sumsE L).length ≤ 16; omega, sumsE_sums L, root_sum (sumsE_sums L), by show (0 : Int) ≤ ((i : Nat) : Int); omega, by show ((i : Nat) : Int) < (sumsE L).length; omega, by show (1 : Int) ≤ (L.getD i []).length; omega, by show ((L.getD i []).length : Int) ≤ 65536; omega⟩, ?_, rfl⟩
  show sumE (L.getD i []) = (sumsE L).getD ((i : Nat) : Int).toNat []
  rw [Int.toNat_natCast, sumsE, List.getD_eq_getElem?_getD (l := L.map sumE), List.getElem?_map, hg]; rfl
theorem mk_fits {data total len i : Nat} {bl : List Str} (h1 : 1 ≤ data) (h8 : data ≤ 8) (hdt : data ≤ total) (h16 : total ≤ 16) (hb2 : bl.length ≤ data) (hB : BlkR bl len) (hi : i < total) : FitP (mkSt data total len bl) (pcI (rsE data total bl len) i) := by
  have hcl := rsE_length data total bl len
  have hca := rsE_lens h1 h8 hdt h16 hb2 hB
  refine ⟨rfl, by show (sumsE _).length = _; rw [sumsE_length]; exact hcl, ?_, pcI_valid (by omega) (by omega) hca hB.l1 hB.l2⟩
  show ((rsE data total bl len).getD i []).length = len
  rw [List.getD_eq_getElem?_getD, List.getElem?_eq_getElem (by omega)]
  exact hca _ (List.getElem_mem (by omega))
theorem mk_good {data total len : Nat} {bl : List Str} {l : List RefD} (h1 : 1 ≤ data) (h8 : data ≤ 8) (hdt : data ≤ total) (h16 : total ≤ 16) (hb1 : 1 ≤ bl.length) (hb2 : bl.length ≤ data) (hbl : bl.length = l.length) (hg : GoodRefs l) (hc : ∀ r ∈ l, clsF r.sz.toNat = len) : GoodSt (mkSt data total len bl) l :=
  ⟨root_sum (sumsE_sums _), h1, h8, hdt, h16, by omega, by show l.length ≤ data; omega, hg, hc⟩

def awR : List RefD := [⟨nm15 1 1, 0, 3⟩]
def awB : List Str := [List.replicate 64 0]
theorem awR_good : GoodRefs awR := by
  constructor
  · decide
  · intro r hr; rw [List.mem_singleton.1 hr]; rfl
  · intro r hr; rw [List.mem_singleton.1 hr]; decide
  · intro r hr; rw [List.mem_singleton.1 hr]; decide
  · intro r hr; rw [List.mem_singleton.1 hr]; decide
  · simp [awR]
theorem awR_cls : ∀ r ∈ awR, clsF r.sz.toNat = 64 := fun r hr => by rw [List.mem_singleton.1 hr]; exact clsV_small (by decide)
theorem awB_blk : BlkR awB 64 := ⟨by decide, by decide, fun x hx => by rw [List.mem_singleton.1 hx]; exact List.length_replicate⟩
theorem aw_refs {R : Rd} {h : Hp} (i : Nat) {g : Nat} {e : TypeId} (hi : h[i]? = some (.row (some ⟨g, 0, .none⟩) 1 1 e 3 (refsC awR) (0, 0))) : RefsR (RH R h) (.slice (some ⟨g, 0, .none⟩) 1 1) awR := SlR.own i hi rfl (.inr ⟨g, rfl⟩)
theorem aw_blk {R : Rd} {h : Hp} (i j : Nat) {g g2 : Nat} {e e2 : TypeId} (hi : h[i]? = some (.row (some ⟨g, 0, .none⟩) 1 1 e 1 [.slice (some ⟨g2, 0, .none⟩) 64 64] (0, 0))) (hj : h[j]? = some (.row (some ⟨g2, 0, .none⟩) 64 64 e2 1 (BV (List.replicate 64 0)) (0, 0))) :
    Bss true (RH R h) (.slice (some ⟨g, 0, .none⟩) 1 1) awB :=
  Bss.own (l := awB) i hi (.inr ⟨g, rfl⟩) rfl (VsR.snoc (VsR.nil _ _) ⟨some ⟨g2, 0, .none⟩, 64, rfl, fun _ => Nat.le_refl _, BsR.own j hj rfl rfl (.inr ⟨g2, rfl⟩)⟩)
theorem aw_make {R : Rd} (hG : ShaG R) {v3 v4 : Value} (h3 : RefsR R v3 awR) (h4 : Bss true R v4 awB) : Fn Tryd.prog 8 [.int .i64 0, .int .i64 1, .int .i64 2, v3, v4] [] R (MakeP 1 2 64 awB awR) :=
  Make_ok R hG 1 2 64 awB awR v3 v4 (by decide) (by decide) (by decide) (by decide) (by decide) (by decide) awB_blk rfl awR_good awR_cls h3 h4
set_option maxRecDepth 100000 in
set_option maxHeartbeats 4000000 in
theorem Awake15_ok (R : Rd) (hG : ShaG R) : Fn Tryd.prog 6 [] [] R (fun v h => v = .bool true ∧ h = []) := by
  refine fn_of_vc mixed tabOk Tryd.func6 rfl (by kernel_rfl) (Nat.le_of_ble_eq_true rfl) ?_
  refine ⟨[], .cut (.three 0 (.q 1 (.three 2 (.two 3 (.two 4 (.two 5 (.q 6 (.q 7 (.q 8 (.q 9 (.one 10 (.one 11 (.q 12 (.q 13 .nil)))))))) 10 (.one 5 (.q 6 (.q 7 (.q 8 (.q 9 (.one 11 (.q 12 (.q 13 .nil))))))))) 10 (.one 4 (.one 5 (.q 6 (.q 7 (.q 8 (.q 9 (.one 11 (.q 12 (.q 13 .nil)))))))))) 10 (.one 3 (.one 4 (.one 5 (.q 6 (.q 7 (.q 8 (.q 9 (.one 11 (.q 12 (.q 13 .nil))))))))))) 3 (.three 2 (.two 4 (.two 5 (.q 6 (.q 7 (.q 8 (.q 9 (.one 10 (.one 11 (.q 12 (.q 13 .nil)))))))) 10 (.one 5 (.q 6 (.q 7 (.q 8 (.q 9 (.one 11 (.q 12 (.q 13 .nil))))))))) 10 (.one 4 (.one 5 (.q 6 (.q 7 (.q 8 (.q 9 (.one 11 (.q 12 (.q 13 .nil)))))))))) 4 (.two 2 (.two 5 (.q 6 (.q 7 (.q 8 (.q 9 (.one 10 (.one 11 (.q 12 (.q 13 .nil)))))))) 10 (.one 5 (.q 6 (.q 7 (.q 8 (.q 9 (.one 11 (.q 12 (.q 13 .nil))))))))) 10 (.one 2 (.one 5 (.q 6 (.q 7 (.q 8 (.q 9 (.one 11 (.q 12 (.q 13 .nil)))))))))) 10 (.two 2 (.one 4 (.one 5 (.q 6 (.q 7 (.q 8 (.q 9 (.one 11 (.q 12 (.q 13 .nil))))))))) 4 (.one 2 (.one 5 (.q 6 (.q 7 (.q 8 (.q 9 (.one 11 (.q 12 (.q 13 .nil))))))))))) 10 (.two 2 (.one 3 (.one 4 (.one 5 (.q 6 (.q 7 (.q 8 (.q 9 (.one 11 (.q 12 (.q 13 .nil)))))))))) 3 (.two 2 (.one 4 (.one 5 (.q 6 (.q 7 (.q 8 (.q 9 (.one 11 (.q 12 (.q 13 .nil))))))))) 4 (.one 2 (.one 5 (.q 6 (.q 7 (.q 8 (.q 9 (.one 11 (.q 12 (.q 13 .nil))))))))))))) 3 (.three 0 (.q 1 (.three 2 (.two 4 (.two 5 (.q 6 (.q 7 (.q 8 (.q 9 (.one 10 (.one 11 (.q 12 (.q 13 .nil)))))))) 10 (.one 5 (.q 6 (.q 7 (.q 8 (.q 9 (.one 11 (.q 12 (.q 13 .nil))))))))) 10 (.one 4 (.one 5 (.q 6 (.q 7 (.q 8 (.q 9 (.one 11 (.q 12 (.q 13 .nil)))))))))) 4 (.two 2 (.two 5 (.q 6 (.q 7 (.q 8 (.q 9 (.one 10 (.one 11 (.q 12 (.q 13 .nil)))))))) 10 (.one 5 (.q 6 (.q 7 (.q 8 (.q 9 (.one 11 (.q 12 (.q 13 .nil))))))))) 10 (.one 2 (.one 5 (.q 6 (.q 7 (.q 8 (.q 9 (.one 11 (.q 12 (.q 13 .nil)))))))))) 10 (.two 2 (.one 4 (.one 5 (.q 6 (.q 7 (.q 8 (.q 9 (.one 11 (.q 12 (.q 13 .nil))))))))) 4 (.one 2 (.one 5 (.q 6 (.q 7 (.q 8 (.q 9 (.one 11 (.q 12 (.q 13 .nil)))))))))))) 4 (.two 0 (.q 1 (.two 2 (.two 5 (.q 6 (.q 7 (.q 8 (.q 9 (.one 10 (.one 11 (.q 12 (.q 13 .nil)))))))) 10 (.one 5 (.q 6 (.q 7 (.q 8 (.q 9 (.one 11 (.q 12 (.q 13 .nil))))))))) 10 (.one 2 (.one 5 (.q 6 (.q 7 (.q 8 (.q 9 (.one 11 (.q 12 (.q 13 .nil))))))))))) 10 (.one 0 (.q 1 (.one 2 (.one 5 (.q 6 (.q 7 (.q 8 (.q 9 (.one 11 (.q 12 (.q 13 .nil)))))))))))) 10 (.two 0 (.q 1 (.two 2 (.one 4 (.one 5 (.q 6 (.q 7 (.q 8 (.q 9 (.one 11 (.q 12 (.q 13 .nil))))))))) 4 (.one 2 (.one 5 (.q 6 (.q 7 (.q 8 (.q 9 (.one 11 (.q 12 (.q 13 .nil))))))))))) 4 (.one 0 (.q 1 (.one 2 (.one 5 (.q 6 (.q 7 (.q 8 (.q 9 (.one 11 (.q 12 (.q 13 .nil))))))))))))) 10 (.two 0 (.q 1 (.two 2 (.one 3 (.one 4 (.one 5 (.q 6 (.q 7 (.q 8 (.q 9 (.one 11 (.q 12 (.q 13 .nil)))))))))) 3 (.two 2 (.one 4 (.one 5 (.q 6 (.q 7 (.q 8 (.q 9 (.one 11 (.q 12 (.q 13 .nil))))))))) 4 (.one 2 (.one 5 (.q 6 (.q 7 (.q 8 (.q 9 (.one 11 (.q 12 (.q 13 .nil)))))))))))) 3 (.two 0 (.q 1 (.two 2 (.one 4 (.one 5 (.q 6 (.q 7 (.q 8 (.q 9 (.one 11 (.q 12 (.q 13 .nil))))))))) 4 (.one 2 (.one 5 (.q 6 (.q 7 (.q 8 (.q 9 (.one 11 (.q 12 (.q 13 .nil))))))))))) 4 (.one 0 (.q 1 (.one 2 (.one 5 (.q 6 (.q 7 (.q 8 (.q 9 (.one 11 (.q 12 (.q 13 .nil)))))))))))))), by kernel_rfl, [none, some 1, some 2, some 3, none, none, some 6, some 7, some 8, some 9, some 10, some 11, some 12, some 13, some 14, some 15], ?_⟩
  refine ⟨[1, 2, 3], Nat × Value × Value × List Nat × Rd, fun ⟨g, u, Rf, ids, C⟩ => PcsR C u (pcsE (rsE 1 2 awB 64)) ∧ RefsR C Rf awR, fun ⟨g, u, Rf, ids, C⟩ => [.pointer (some ⟨g, 0, .none⟩), u, .int .i64 0],
    fun ⟨g, u, Rf, ids, C⟩ => [.ro ids C, .blk g 35 (stpC (mkSt 1 2 64 awB) Rf)], ?_, ?_⟩
  · refine ⟨?_, ?_, ?_⟩
    · refine ⟨[], _, Name15_ok _ 1 1, ?_⟩
      rintro _ _ ⟨rfl, rfl⟩
      refine ⟨?_, ?_, ?_⟩
      · refine ⟨rfl, fun g1 => ?_⟩
        refine ⟨?_, ?_⟩
        · refine ⟨by omega, by omega, by decide, by decide, fun g2 => ?_⟩
          refine ⟨?_, ?_⟩
          · refine ⟨rfl, fun g3 => ?_⟩
            refine ⟨?_, ?_⟩
            · refine ⟨[], _, aw_make ((hG.rh _).rh _) (aw_refs 0 rfl) (aw_blk 2 1 rfl rfl), ?_⟩
              rintro _ _ ⟨u, Rf, ids, C, rfl, rfl, hu, hR⟩
              have hR' := hR
              obtain ⟨_, Ar, cr, rfl, _⟩ := hR'
              intro g4
              refine ⟨rfl, rfl, 4, rfl, rfl, Nat.le_of_ble_eq_true rfl, ?_⟩
              exact ⟨rfl, (g4, u, _, ids, C), ⟨hu, hR⟩, ⟨rfl, rfl, rfl, trivial⟩, Ent.pick [3, 3] rfl, rfl⟩
            · intro g4
              refine ⟨[], _, aw_make ((hG.rh _).rh _) (aw_refs 0 rfl) (aw_blk 2 1 rfl rfl), ?_⟩
              rintro _ _ ⟨u, Rf, ids, C, rfl, rfl, hu, hR⟩
              have hR' := hR
              obtain ⟨_, Ar, cr, rfl, _⟩ := hR'
              refine ⟨rfl, rfl, 3, rfl, rfl, Nat.le_of_ble_eq_true rfl, ?_⟩
              exact ⟨rfl, (g4, u, _, ids, C), ⟨hu, hR⟩, ⟨rfl, rfl, rfl, trivial⟩, Ent.pick [4, 3] rfl, rfl⟩
          · intro g4
            refine ⟨rfl, fun g3 => ?_⟩
            refine ⟨[], _, aw_make ((hG.rh _).rh _) (aw_refs 0 rfl) (aw_blk 3 1 rfl rfl), ?_⟩
            rintro _ _ ⟨u, Rf, ids, C, rfl, rfl, hu, hR⟩
            have hR' := hR
            obtain ⟨_, Ar, cr, rfl, _⟩ := hR'
            refine ⟨rfl, rfl, 2, rfl, rfl, Nat.le_of_ble_eq_true rfl, ?_⟩
            exact ⟨rfl, (g4, u, _, ids, C), ⟨hu, hR⟩, ⟨rfl, rfl, rfl, trivial⟩, Ent.pick [4, 2] rfl, rfl⟩
        · intro g4
          refine ⟨by omega, by omega, by decide, by decide, fun g2 => ?_⟩
          refine ⟨rfl, fun g3 => ?_⟩
          refine ⟨[], _, aw_make ((hG.rh _).rh _) (aw_refs 0 rfl) (aw_blk 3 2 rfl rfl), ?_⟩
          rintro _ _ ⟨u, Rf, ids, C, rfl, rfl, hu, hR⟩
          have hR' := hR
          obtain ⟨_, Ar, cr, rfl, _⟩ := hR'
          refine ⟨rfl, rfl, 1, rfl, rfl, Nat.le_of_ble_eq_true rfl, ?_⟩
          exact ⟨rfl, (g4, u, _, ids, C), ⟨hu, hR⟩, ⟨rfl, rfl, rfl, trivial⟩, Ent.pick [4, 1] rfl, rfl⟩
      · refine ⟨by omega, by omega, by decide, by decide, fun g2 => ?_⟩
        refine ⟨?_, ?_, ?_⟩
        · refine ⟨rfl, fun g1 => ?_⟩
          refine ⟨?_, ?_⟩
          · refine ⟨rfl, fun g3 => ?_⟩
            refine ⟨?_, ?_⟩
            · refine ⟨[], _, aw_make ((hG.rh _).rh _) (aw_refs 1 rfl) (aw_blk 2 0 rfl rfl), ?_⟩
              rintro _ _ ⟨u, Rf, ids, C, rfl, rfl, hu, hR⟩
              have hR' := hR
              obtain ⟨_, Ar, cr, rfl, _⟩ := hR'
              intro g4
              refine ⟨rfl, rfl, 4, rfl, rfl, Nat.le_of_ble_eq_true rfl, ?_⟩
              exact ⟨rfl, (g4, u, _, ids, C), ⟨hu, hR⟩, ⟨rfl, rfl, rfl, trivial⟩, Ent.pick [3, 3] rfl, rfl⟩
            · intro g4
              refine ⟨[], _, aw_make ((hG.rh _).rh _) (aw_refs 1 rfl) (aw_blk 2 0 rfl rfl), ?_⟩
              rintro _ _ ⟨u, Rf, ids, C, rfl, rfl, hu, hR⟩
              have hR' := hR
              obtain ⟨_, Ar, cr, rfl, _⟩ := hR'
              refine ⟨rfl, rfl, 3, rfl, rfl, Nat.le_of_ble_eq_true rfl, ?_⟩
              exact ⟨rfl, (g4, u, _, ids, C), ⟨hu, hR⟩, ⟨rfl, rfl, rfl, trivial⟩, Ent.pick [4, 3] rfl, rfl⟩
          · intro g4
            refine ⟨rfl, fun g3 => ?_⟩
            refine ⟨[], _, aw_make ((hG.rh _).rh _) (aw_refs 1 rfl) (aw_blk 3 0 rfl rfl), ?_⟩
            rintro _ _ ⟨u, Rf, ids, C, rfl, rfl, hu, hR⟩
            have hR' := hR
            obtain ⟨_, Ar, cr, rfl, _⟩ := hR'
            refine ⟨rfl, rfl, 2, rfl, rfl, Nat.le_of_ble_eq_true rfl, ?_⟩
            exact ⟨rfl, (g4, u, _, ids, C), ⟨hu, hR⟩, ⟨rfl, rfl, rfl, trivial⟩, Ent.pick [4, 2] rfl, rfl⟩
        · refine ⟨rfl, fun g3 => ?_⟩
          refine ⟨?_, ?_⟩
          · refine ⟨rfl, fun g1 => ?_⟩
            refine ⟨?_, ?_⟩
            · refine ⟨[], _, aw_make ((hG.rh _).rh _) (aw_refs 2 rfl) (aw_blk 1 0 rfl rfl), ?_⟩
              rintro _ _ ⟨u, Rf, ids, C, rfl, rfl, hu, hR⟩
              have hR' := hR
              obtain ⟨_, Ar, cr, rfl, _⟩ := hR'
              intro g4
              refine ⟨rfl, rfl, 4, rfl, rfl, Nat.le_of_ble_eq_true rfl, ?_⟩
              exact ⟨rfl, (g4, u, _, ids, C), ⟨hu, hR⟩, ⟨rfl, rfl, rfl, trivial⟩, Ent.pick [3, 3] rfl, rfl⟩
            · intro g4
              refine ⟨[], _, aw_make ((hG.rh _).rh _) (aw_refs 2 rfl) (aw_blk 1 0 rfl rfl), ?_⟩
              rintro _ _ ⟨u, Rf, ids, C, rfl, rfl, hu, hR⟩
              have hR' := hR
              obtain ⟨_, Ar, cr, rfl, _⟩ := hR'
              refine ⟨rfl, rfl, 3, rfl, rfl, Nat.le_of_ble_eq_true rfl, ?_⟩
              exact ⟨rfl, (g4, u, _, ids, C), ⟨hu, hR⟩, ⟨rfl, rfl, rfl, trivial⟩, Ent.pick [4, 3] rfl, rfl⟩
          · intro g4
            refine ⟨rfl, fun g1 => ?_⟩
            refine ⟨[], _, aw_make ((hG.rh _).rh _) (aw_refs 3 rfl) (aw_blk 1 0 rfl rfl), ?_⟩
            rintro _ _ ⟨u, Rf, ids, C, rfl, rfl, hu, hR⟩
            have hR' := hR
            obtain ⟨_, Ar, cr, rfl, _⟩ := hR'
            refine ⟨rfl, rfl, 2, rfl, rfl, Nat.le_of_ble_eq_true rfl, ?_⟩
            exact ⟨rfl, (g4, u, _, ids, C), ⟨hu, hR⟩, ⟨rfl, rfl, rfl, trivial⟩, Ent.pick [4, 2] rfl, rfl⟩
        · intro g4
          refine ⟨?_, ?_⟩
          · refine ⟨rfl, fun g1 => ?_⟩
            refine ⟨rfl, fun g3 => ?_⟩
            refine ⟨[], _, aw_make ((hG.rh _).rh _) (aw_refs 2 rfl) (aw_blk 3 0 rfl rfl), ?_⟩
            rintro _ _ ⟨u, Rf, ids, C, rfl, rfl, hu, hR⟩
            have hR' := hR
            obtain ⟨_, Ar, cr, rfl, _⟩ := hR'
            refine ⟨rfl, rfl, 1, rfl, rfl, Nat.le_of_ble_eq_true rfl, ?_⟩
            exact ⟨rfl, (g4, u, _, ids, C), ⟨hu, hR⟩, ⟨rfl, rfl, rfl, trivial⟩, Ent.pick [4, 1] rfl, rfl⟩
          · refine ⟨rfl, fun g3 => ?_⟩
            refine ⟨rfl, fun g1 => ?_⟩
            refine ⟨[], _, aw_make ((hG.rh _).rh _) (aw_refs 3 rfl) (aw_blk 2 0 rfl rfl), ?_⟩
            rintro _ _ ⟨u, Rf, ids, C, rfl, rfl, hu, hR⟩
            have hR' := hR
            obtain ⟨_, Ar, cr, rfl, _⟩ := hR'
            refine ⟨rfl, rfl, 1, rfl, rfl, Nat.le_of_ble_eq_true rfl, ?_⟩
            exact ⟨rfl, (g4, u, _, ids, C), ⟨hu, hR⟩, ⟨rfl, rfl, rfl, trivial⟩, Ent.pick [4, 1] rfl, rfl⟩
      · intro g4
        refine ⟨?_, ?_⟩
        · refine ⟨rfl, fun g1 => ?_⟩
          refine ⟨by omega, by omega, by decide, by decide, fun g2 => ?_⟩
          refine ⟨rfl, fun g3 => ?_⟩
          refine ⟨[], _, aw_make ((hG.rh _).rh _) (aw_refs 1 rfl) (aw_blk 3 2 rfl rfl), ?_⟩
          rintro _ _ ⟨u, Rf, ids, C, rfl, rfl, hu, hR⟩
          have hR' := hR
          obtain ⟨_, Ar, cr, rfl, _⟩ := hR'
          refine ⟨rfl, rfl, 0, rfl, rfl, Nat.le_of_ble_eq_true rfl, ?_⟩
          exact ⟨rfl, (g4, u, _, ids, C), ⟨hu, hR⟩, ⟨rfl, rfl, rfl, trivial⟩, Ent.pick [4, 0] rfl, rfl⟩
        · refine ⟨by omega, by omega, by decide, by decide, fun g2 => ?_⟩
          refine ⟨?_, ?_⟩
          · refine ⟨rfl, fun g1 => ?_⟩
            refine ⟨rfl, fun g3 => ?_⟩
            refine ⟨[], _, aw_make ((hG.rh _).rh _) (aw_refs 2 rfl) (aw_blk 3 1 rfl rfl), ?_⟩
            rintro _ _ ⟨u, Rf, ids, C, rfl, rfl, hu, hR⟩
            have hR' := hR
            obtain ⟨_, Ar, cr, rfl, _⟩ := hR'
            refine ⟨rfl, rfl, 0, rfl, rfl, Nat.le_of_ble_eq_true rfl, ?_⟩
            exact ⟨rfl, (g4, u, _, ids, C), ⟨hu, hR⟩, ⟨rfl, rfl, rfl, trivial⟩, Ent.pick [4, 0] rfl, rfl⟩
          · refine ⟨rfl, fun g3 => ?_⟩
            refine ⟨rfl, fun g1 => ?_⟩
            refine ⟨[], _, aw_make ((hG.rh _).rh _) (aw_refs 3 rfl) (aw_blk 2 1 rfl rfl), ?_⟩
            rintro _ _ ⟨u, Rf, ids, C, rfl, rfl, hu, hR⟩
            have hR' := hR
            obtain ⟨_, Ar, cr, rfl, _⟩ := hR'
            refine ⟨rfl, rfl, 0, rfl, rfl, Nat.le_of_ble_eq_true rfl, ?_⟩
            exact ⟨rfl, (g4, u, _, ids, C), ⟨hu, hR⟩, ⟨rfl, rfl, rfl, trivial⟩, Ent.pick [4, 0] rfl, rfl⟩
    · refine ⟨by omega, by omega, by decide, by decide, fun g2 => ?_⟩
      refine ⟨?_, ?_, ?_⟩
      · refine ⟨[], _, Name15_ok _ 1 1, ?_⟩
        rintro _ _ ⟨rfl, rfl⟩
        refine ⟨?_, ?_, ?_⟩
        · refine ⟨rfl, fun g1 => ?_⟩
          refine ⟨?_, ?_⟩
          · refine ⟨rfl, fun g3 => ?_⟩
            refine ⟨?_, ?_⟩
            · refine ⟨[], _, aw_make ((hG.rh _).rh _) (aw_refs 1 rfl) (aw_blk 2 0 rfl rfl), ?_⟩
              rintro _ _ ⟨u, Rf, ids, C, rfl, rfl, hu, hR⟩
              have hR' := hR
              obtain ⟨_, Ar, cr, rfl, _⟩ := hR'
              intro g4
              refine ⟨rfl, rfl, 4, rfl, rfl, Nat.le_of_ble_eq_true rfl, ?_⟩
              exact ⟨rfl, (g4, u, _, ids, C), ⟨hu, hR⟩, ⟨rfl, rfl, rfl, trivial⟩, Ent.pick [3, 3] rfl, rfl⟩
            · intro g4
              refine ⟨[], _, aw_make ((hG.rh _).rh _) (aw_refs 1 rfl) (aw_blk 2 0 rfl rfl), ?_⟩
              rintro _ _ ⟨u, Rf, ids, C, rfl, rfl, hu, hR⟩
              have hR' := hR
              obtain ⟨_, Ar, cr, rfl, _⟩ := hR'
              refine ⟨rfl, rfl, 3, rfl, rfl, Nat.le_of_ble_eq_true rfl, ?_⟩
              exact ⟨rfl, (g4, u, _, ids, C), ⟨hu, hR⟩, ⟨rfl, rfl, rfl, trivial⟩, Ent.pick [4, 3] rfl, rfl⟩
          · intro g4
            refine ⟨rfl, fun g3 => ?_⟩
            refine ⟨[], _, aw_make ((hG.rh _).rh _) (aw_refs 1 rfl) (aw_blk 3 0 rfl rfl), ?_⟩
            rintro _ _ ⟨u, Rf, ids, C, rfl, rfl, hu, hR⟩
            have hR' := hR
            obtain ⟨_, Ar, cr, rfl, _⟩ := hR'
            refine ⟨rfl, rfl, 2, rfl, rfl, Nat.le_of_ble_eq_true rfl, ?_⟩
            exact ⟨rfl, (g4, u, _, ids, C), ⟨hu, hR⟩, ⟨rfl, rfl, rfl, trivial⟩, Ent.pick [4, 2] rfl, rfl⟩
        · refine ⟨rfl, fun g3 => ?_⟩
          refine ⟨?_, ?_⟩
          · refine ⟨rfl, fun g1 => ?_⟩
            refine ⟨?_, ?_⟩
            · refine ⟨[], _, aw_make ((hG.rh _).rh _) (aw_refs 2 rfl) (aw_blk 1 0 rfl rfl), ?_⟩
              rintro _ _ ⟨u, Rf, ids, C, rfl, rfl, hu, hR⟩
              have hR' := hR
              obtain ⟨_, Ar, cr, rfl, _⟩ := hR'
              intro g4
              refine ⟨rfl, rfl, 4, rfl, rfl, Nat.le_of_ble_eq_true rfl, ?_⟩
              exact ⟨rfl, (g4, u, _, ids, C), ⟨hu, hR⟩, ⟨rfl, rfl, rfl, trivial⟩, Ent.pick [3, 3] rfl, rfl⟩
            · intro g4
              refine ⟨[], _, aw_make ((hG.rh _).rh _) (aw_refs 2 rfl) (aw_blk 1 0 rfl rfl), ?_⟩
              rintro _ _ ⟨u, Rf, ids, C, rfl, rfl, hu, hR⟩
              have hR' := hR
              obtain ⟨_, Ar, cr, rfl, _⟩ := hR'
              refine ⟨rfl, rfl, 3, rfl, rfl, Nat.le_of_ble_eq_true rfl, ?_⟩
              exact ⟨rfl, (g4, u, _, ids, C), ⟨hu, hR⟩, ⟨rfl, rfl, rfl, trivial⟩, Ent.pick [4, 3] rfl, rfl⟩
          · intro g4
            refine ⟨rfl, fun g1 => ?_⟩
            refine ⟨[], _, aw_make ((hG.rh _).rh _) (aw_refs 3 rfl) (aw_blk 1 0 rfl rfl), ?_⟩
            rintro _ _ ⟨u, Rf, ids, C, rfl, rfl, hu, hR⟩
            have hR' := hR
            obtain ⟨_, Ar, cr, rfl, _⟩ := hR'
            refine ⟨rfl, rfl, 2, rfl, rfl, Nat.le_of_ble_eq_true rfl, ?_⟩
            exact ⟨rfl, (g4, u, _, ids, C), ⟨hu, hR⟩, ⟨rfl, rfl, rfl, trivial⟩, Ent.pick [4, 2] rfl, rfl⟩
        · intro g4
          refine ⟨?_, ?_⟩
          · refine ⟨rfl, fun g1 => ?_⟩
            refine ⟨rfl, fun g3 => ?_⟩
            refine ⟨[], _, aw_make ((hG.rh _).rh _) (aw_refs 2 rfl) (aw_blk 3 0 rfl rfl), ?_⟩
            rintro _ _ ⟨u, Rf, ids, C, rfl, rfl, hu, hR⟩
            have hR' := hR
            obtain ⟨_, Ar, cr, rfl, _⟩ := hR'
            refine ⟨rfl, rfl, 1, rfl, rfl, Nat.le_of_ble_eq_true rfl, ?_⟩
            exact ⟨rfl, (g4, u, _, ids, C), ⟨hu, hR⟩, ⟨rfl, rfl, rfl, trivial⟩, Ent.pick [4, 1] rfl, rfl⟩
          · refine ⟨rfl, fun g3 => ?_⟩
            refine ⟨rfl, fun g1 => ?_⟩
            refine ⟨[], _, aw_make ((hG.rh _).rh _) (aw_refs 3 rfl) (aw_blk 2 0 rfl rfl), ?_⟩
            rintro _ _ ⟨u, Rf, ids, C, rfl, rfl, hu, hR⟩
            have hR' := hR
            obtain ⟨_, Ar, cr, rfl, _⟩ := hR'
            refine ⟨rfl, rfl, 1, rfl, rfl, Nat.le_of_ble_eq_true rfl, ?_⟩
            exact ⟨rfl, (g4, u, _, ids, C), ⟨hu, hR⟩, ⟨rfl, rfl, rfl, trivial⟩, Ent.pick [4, 1] rfl, rfl⟩
      · refine ⟨rfl, fun g3 => ?_⟩
        refine ⟨?_, ?_⟩
        · refine ⟨[], _, Name15_ok _ 1 1, ?_⟩
          rintro _ _ ⟨rfl, rfl⟩
          refine ⟨?_, ?_⟩
          · refine ⟨rfl, fun g1 => ?_⟩
            refine ⟨?_, ?_⟩
            · refine ⟨[], _, aw_make ((hG.rh _).rh _) (aw_refs 2 rfl) (aw_blk 1 0 rfl rfl), ?_⟩
              rintro _ _ ⟨u, Rf, ids, C, rfl, rfl, hu, hR⟩
              have hR' := hR
              obtain ⟨_, Ar, cr, rfl, _⟩ := hR'
              intro g4
              refine ⟨rfl, rfl, 4, rfl, rfl, Nat.le_of_ble_eq_true rfl, ?_⟩
              exact ⟨rfl, (g4, u, _, ids, C), ⟨hu, hR⟩, ⟨rfl, rfl, rfl, trivial⟩, Ent.pick [3, 3] rfl, rfl⟩
            · intro g4
              refine ⟨[], _, aw_make ((hG.rh _).rh _) (aw_refs 2 rfl) (aw_blk 1 0 rfl rfl), ?_⟩
              rintro _ _ ⟨u, Rf, ids, C, rfl, rfl, hu, hR⟩
              have hR' := hR
              obtain ⟨_, Ar, cr, rfl, _⟩ := hR'
              refine ⟨rfl, rfl, 3, rfl, rfl, Nat.le_of_ble_eq_true rfl, ?_⟩
              exact ⟨rfl, (g4, u, _, ids, C), ⟨hu, hR⟩, ⟨rfl, rfl, rfl, trivial⟩, Ent.pick [4, 3] rfl, rfl⟩
          · intro g4
            refine ⟨rfl, fun g1 => ?_⟩
            refine ⟨[], _, aw_make ((hG.rh _).rh _) (aw_refs 3 rfl) (aw_blk 1 0 rfl rfl), ?_⟩
            rintro _ _ ⟨u, Rf, ids, C, rfl, rfl, hu, hR⟩
            have hR' := hR
            obtain ⟨_, Ar, cr, rfl, _⟩ := hR'
            refine ⟨rfl, rfl, 2, rfl, rfl, Nat.le_of_ble_eq_true rfl, ?_⟩
            exact ⟨rfl, (g4, u, _, ids, C), ⟨hu, hR⟩, ⟨rfl, rfl, rfl, trivial⟩, Ent.pick [4, 2] rfl, rfl⟩
        · intro g4
          refine ⟨[], _, Name15_ok _ 1 1, ?_⟩
          rintro _ _ ⟨rfl, rfl⟩
          refine ⟨rfl, fun g1 => ?_⟩
          refine ⟨[], _, aw_make ((hG.rh _).rh _) (aw_refs 3 rfl) (aw_blk 1 0 rfl rfl), ?_⟩
          rintro _ _ ⟨u, Rf, ids, C, rfl, rfl, hu, hR⟩
          have hR' := hR
          obtain ⟨_, Ar, cr, rfl, _⟩ := hR'
          refine ⟨rfl, rfl, 2, rfl, rfl, Nat.le_of_ble_eq_true rfl, ?_⟩
          exact ⟨rfl, (g4, u, _, ids, C), ⟨hu, hR⟩, ⟨rfl, rfl, rfl, trivial⟩, Ent.pick [4, 2] rfl, rfl⟩
      · intro g4
        refine ⟨?_, ?_⟩
        · refine ⟨[], _, Name15_ok _ 1 1, ?_⟩
          rintro _ _ ⟨rfl, rfl⟩
          refine ⟨?_, ?_⟩
          · refine ⟨rfl, fun g1 => ?_⟩
            refine ⟨rfl, fun g3 => ?_⟩
            refine ⟨[], _, aw_make ((hG.rh _).rh _) (aw_refs 2 rfl) (aw_blk 3 0 rfl rfl), ?_⟩
            rintro _ _ ⟨u, Rf, ids, C, rfl, rfl, hu, hR⟩
            have hR' := hR
            obtain ⟨_, Ar, cr, rfl, _⟩ := hR'
            refine ⟨rfl, rfl, 1, rfl, rfl, Nat.le_of_ble_eq_true rfl, ?_⟩
            exact ⟨rfl, (g4, u, _, ids, C), ⟨hu, hR⟩, ⟨rfl, rfl, rfl, trivial⟩, Ent.pick [4, 1] rfl, rfl⟩
          · refine ⟨rfl, fun g3 => ?_⟩
            refine ⟨rfl, fun g1 => ?_⟩
            refine ⟨[], _, aw_make ((hG.rh _).rh _) (aw_refs 3 rfl) (aw_blk 2 0 rfl rfl), ?_⟩
            rintro _ _ ⟨u, Rf, ids, C, rfl, rfl, hu, hR⟩
            have hR' := hR
            obtain ⟨_, Ar, cr, rfl, _⟩ := hR'
            refine ⟨rfl, rfl, 1, rfl, rfl, Nat.le_of_ble_eq_true rfl, ?_⟩
            exact ⟨rfl, (g4, u, _, ids, C), ⟨hu, hR⟩, ⟨rfl, rfl, rfl, trivial⟩, Ent.pick [4, 1] rfl, rfl⟩
        · refine ⟨rfl, fun g3 => ?_⟩
          refine ⟨[], _, Name15_ok _ 1 1, ?_⟩
          rintro _ _ ⟨rfl, rfl⟩
          refine ⟨rfl, fun g1 => ?_⟩
          refine ⟨[], _, aw_make ((hG.rh _).rh _) (aw_refs 3 rfl) (aw_blk 2 0 rfl rfl), ?_⟩
          rintro _ _ ⟨u, Rf, ids, C, rfl, rfl, hu, hR⟩
          have hR' := hR
          obtain ⟨_, Ar, cr, rfl, _⟩ := hR'
          refine ⟨rfl, rfl, 1, rfl, rfl, Nat.le_of_ble_eq_true rfl, ?_⟩
          exact ⟨rfl, (g4, u, _, ids, C), ⟨hu, hR⟩, ⟨rfl, rfl, rfl, trivial⟩, Ent.pick [4, 1] rfl, rfl⟩
    · intro g4
      refine ⟨?_, ?_⟩
      · refine ⟨[], _, Name15_ok _ 1 1, ?_⟩
        rintro _ _ ⟨rfl, rfl⟩
        refine ⟨?_, ?_⟩
        · refine ⟨rfl, fun g1 => ?_⟩
          refine ⟨by omega, by omega, by decide, by decide, fun g2 => ?_⟩
          refine ⟨rfl, fun g3 => ?_⟩
          refine ⟨[], _, aw_make ((hG.rh _).rh _) (aw_refs 1 rfl) (aw_blk 3 2 rfl rfl), ?_⟩
          rintro _ _ ⟨u, Rf, ids, C, rfl, rfl, hu, hR⟩
          have hR' := hR
          obtain ⟨_, Ar, cr, rfl, _⟩ := hR'
          refine ⟨rfl, rfl, 0, rfl, rfl, Nat.le_of_ble_eq_true rfl, ?_⟩
          exact ⟨rfl, (g4, u, _, ids, C), ⟨hu, hR⟩, ⟨rfl, rfl, rfl, trivial⟩, Ent.pick [4, 0] rfl, rfl⟩
        · refine ⟨by omega, by omega, by decide, by decide, fun g2 => ?_⟩
          refine ⟨?_, ?_⟩
          · refine ⟨rfl, fun g1 => ?_⟩
            refine ⟨rfl, fun g3 => ?_⟩
            refine ⟨[], _, aw_make ((hG.rh _).rh _) (aw_refs 2 rfl) (aw_blk 3 1 rfl rfl), ?_⟩
            rintro _ _ ⟨u, Rf, ids, C, rfl, rfl, hu, hR⟩
            have hR' := hR
            obtain ⟨_, Ar, cr, rfl, _⟩ := hR'
            refine ⟨rfl, rfl, 0, rfl, rfl, Nat.le_of_ble_eq_true rfl, ?_⟩
            exact ⟨rfl, (g4, u, _, ids, C), ⟨hu, hR⟩, ⟨rfl, rfl, rfl, trivial⟩, Ent.pick [4, 0] rfl, rfl⟩
          · refine ⟨rfl, fun g3 => ?_⟩
            refine ⟨rfl, fun g1 => ?_⟩
            refine ⟨[], _, aw_make ((hG.rh _).rh _) (aw_refs 3 rfl) (aw_blk 2 1 rfl rfl), ?_⟩
            rintro _ _ ⟨u, Rf, ids, C, rfl, rfl, hu, hR⟩
            have hR' := hR
            obtain ⟨_, Ar, cr, rfl, _⟩ := hR'
            refine ⟨rfl, rfl, 0, rfl, rfl, Nat.le_of_ble_eq_true rfl, ?_⟩
            exact ⟨rfl, (g4, u, _, ids, C), ⟨hu, hR⟩, ⟨rfl, rfl, rfl, trivial⟩, Ent.pick [4, 0] rfl, rfl⟩
      · refine ⟨by omega, by omega, by decide, by decide, fun g2 => ?_⟩
        refine ⟨?_, ?_⟩
        · refine ⟨[], _, Name15_ok _ 1 1, ?_⟩
          rintro _ _ ⟨rfl, rfl⟩
          refine ⟨?_, ?_⟩
          · refine ⟨rfl, fun g1 => ?_⟩
            refine ⟨rfl, fun g3 => ?_⟩
            refine ⟨[], _, aw_make ((hG.rh _).rh _) (aw_refs 2 rfl) (aw_blk 3 1 rfl rfl), ?_⟩
            rintro _ _ ⟨u, Rf, ids, C, rfl, rfl, hu, hR⟩
            have hR' := hR
            obtain ⟨_, Ar, cr, rfl, _⟩ := hR'
            refine ⟨rfl, rfl, 0, rfl, rfl, Nat.le_of_ble_eq_true rfl, ?_⟩
            exact ⟨rfl, (g4, u, _, ids, C), ⟨hu, hR⟩, ⟨rfl, rfl, rfl, trivial⟩, Ent.pick [4, 0] rfl, rfl⟩
          · refine ⟨rfl, fun g3 => ?_⟩
            refine ⟨rfl, fun g1 => ?_⟩
            refine ⟨[], _, aw_make ((hG.rh _).rh _) (aw_refs 3 rfl) (aw_blk 2 1 rfl rfl), ?_⟩
            rintro _ _ ⟨u, Rf, ids, C, rfl, rfl, hu, hR⟩
            have hR' := hR
            obtain ⟨_, Ar, cr, rfl, _⟩ := hR'
            refine ⟨rfl, rfl, 0, rfl, rfl, Nat.le_of_ble_eq_true rfl, ?_⟩
            exact ⟨rfl, (g4, u, _, ids, C), ⟨hu, hR⟩, ⟨rfl, rfl, rfl, trivial⟩, Ent.pick [4, 0] rfl, rfl⟩
        · refine ⟨rfl, fun g3 => ?_⟩
          refine ⟨[], _, Name15_ok _ 1 1, ?_⟩
          rintro _ _ ⟨rfl, rfl⟩
          refine ⟨rfl, fun g1 => ?_⟩
          refine ⟨[], _, aw_make ((hG.rh _).rh _) (aw_refs 3 rfl) (aw_blk 2 1 rfl rfl), ?_⟩
          rintro _ _ ⟨u, Rf, ids, C, rfl, rfl, hu, hR⟩
          have hR' := hR
          obtain ⟨_, Ar, cr, rfl, _⟩ := hR'
          refine ⟨rfl, rfl, 0, rfl, rfl, Nat.le_of_ble_eq_true rfl, ?_⟩
          exact ⟨rfl, (g4, u, _, ids, C), ⟨hu, hR⟩, ⟨rfl, rfl, rfl, trivial⟩, Ent.pick [4, 0] rfl, rfl⟩
  rintro ⟨g, u, Rf, ids, C⟩ ⟨hu, hR⟩ js
  have hu' := hu
  obtain ⟨Au, cu, lu, rfl, _⟩ := hu'
  have hR' := hR
  obtain ⟨_, Ar, cr, rfl, _⟩ := hR'
  refine ⟨[], _, Class_ok _ 3 (by decide), ?_⟩
  rw [show clsV 3 = (64, 0) by rw [clsV_in (by decide) (by decide), clsV_small (by decide)]]
  rintro _ _ ⟨rfl, rfl⟩
  have hpl : (pcsE (rsE 1 2 awB 64)).length = 2 := by rw [pcsE_length, rsE_length]
  have hp1 : (pcsE (rsE 1 2 awB 64))[1]? = some (pcI (rsE 1 2 awB 64) 1) := pcsE_get (by rw [rsE_length]; decide)
  have hfp : FitP (mkSt 1 2 64 awB) (pcI (rsE 1 2 awB 64) 1) := mk_fits (by decide) (by decide) (by decide) (by decide) (by decide) awB_blk (by decide)
  have hgs : GoodSt (mkSt 1 2 64 awB) awR := mk_good (by decide) (by decide) (by decide) (by decide) (by decide) (by decide) rfl awR_good awR_cls
  rw [hpl] at hu ⊢
  obtain ⟨a, D, S, rfl, hra, hD, hS⟩ := hu.at_ hp1
  refine ⟨[0,0], (.q 0 (.q 1 (.q 2 (.q 3 (.q 4 (.q 5 (.q 6 (.q 7 (.q 8 (.q 9 (.q 10 (.q 11 (.one 12 (.q 13 (.q 14 (.q 15 (.q 16 (.q 17 (.q 18 (.q 19 (.q 20 (.q 21 (.q 22 .nil))))))))))))))))))))))), by kernel_rfl, ?_⟩
  repeat (first | (refine ⟨fun h => ?_, fun h => ?_⟩; rotate_left 1; (focus (exfalso; (first | (with_reducible (cases h; done)) | (revert h; simp; done) | (revert h; simp; omega) | (revert h; simp [*]; done)))); clear h) | (refine ⟨fun h => ?_, fun h => ?_⟩; (focus (exfalso; (first | (with_reducible (cases h; done)) | (revert h; simp; done) | (revert h; simp; omega) | (revert h; simp [*]; done)))); clear h))
  refine ⟨_, rdOff (o := 0) (n := 6) 1 rfl rfl, rfl, ?_⟩
  repeat (first | (refine ⟨fun h => ?_, fun h => ?_⟩; rotate_left 1; (focus (exfalso; (first | (with_reducible (cases h; done)) | (revert h; simp; done) | (revert h; simp; omega) | (revert h; simp [*]; done)))); clear h) | (refine ⟨fun h => ?_, fun h => ?_⟩; (focus (exfalso; (first | (with_reducible (cases h; done)) | (revert h; simp; done) | (revert h; simp; omega) | (revert h; simp [*]; done)))); clear h))
  refine ⟨by decide, by decide, a, rfl, ?_⟩
  repeat (first | (refine ⟨fun h => ?_, fun h => ?_⟩; rotate_left 1; (focus (exfalso; (first | (with_reducible (cases h; done)) | (revert h; simp; done) | (revert h; simp; omega) | (revert h; simp [*]; done)))); clear h) | (refine ⟨fun h => ?_, fun h => ?_⟩; (focus (exfalso; (first | (with_reducible (cases h; done)) | (revert h; simp; done) | (revert h; simp; omega) | (revert h; simp [*]; done)))); clear h))
  refine ⟨_, fun j u h => ro_rh 0 rfl _ _ (rdn (i := 1) hra j u h), rfl, ?_⟩
  repeat (first | (refine ⟨fun h => ?_, fun h => ?_⟩; rotate_left 1; (focus (exfalso; (first | (with_reducible (cases h; done)) | (revert h; simp; done) | (revert h; simp; omega) | (revert h; simp [*]; done)))); clear h) | (refine ⟨fun h => ?_, fun h => ?_⟩; (focus (exfalso; (first | (with_reducible (cases h; done)) | (revert h; simp; done) | (revert h; simp; omega) | (revert h; simp [*]; done)))); clear h))
  refine ⟨[], _, SFits_ok _ ((hG.rh _).rh _) (mkSt 1 2 64 awB) awR (pcI (rsE 1 2 awB 64) 1) _ _ _ hgs (hR.mono fun a v h => .inl (ro_rh 0 rfl a v h)) (hD.mono fun a v h => .inl (ro_rh 0 rfl a v h)) (hS.mono fun a v h => .inl (ro_rh 0 rfl a v h)), ?_⟩
  rw [decide_eq_true hfp]
  rintro _ _ ⟨rfl, rfl⟩
  repeat (first | (refine ⟨fun h => ?_, fun h => ?_⟩; rotate_left 1; (focus (exfalso; (first | (with_reducible (cases h; done)) | (revert h; simp; done) | (revert h; simp; omega) | (revert h; simp [*]; done)))); clear h) | (refine ⟨fun h => ?_, fun h => ?_⟩; (focus (exfalso; (first | (with_reducible (cases h; done)) | (revert h; simp; done) | (revert h; simp; omega) | (revert h; simp [*]; done)))); clear h))
  exact ⟨_, Ent.drop [] _, rfl, rfl⟩

end Go.Proofs.YtgnmbgbiajgpeaaDoor
