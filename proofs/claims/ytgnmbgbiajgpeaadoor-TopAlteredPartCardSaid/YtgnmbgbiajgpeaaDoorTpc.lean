/-
  Top: the contracts of stripe.Pack for one ref, and of a21Awake.
-/
import Derived.Test.YtgnmbgbiajgpeaaDoorTpb
namespace Go.Proofs.YtgnmbgbiajgpeaaDoor
open Go Go.RowKit
set_option linter.unusedVariables false
set_option linter.unusedSimpArgs false

/-- One group of one ref. -/
def OneG (C : Rd) (v : Value) (x : RefD) : Prop := ∃ a c B bc, v = .slice (some a) 1 c ∧ C a (.slice B 1 bc) ∧ RefsR C (.slice B 1 bc) [x]
abbrev PackSt := Option ((Nat × Nat × Option Addr × Nat) × List Nat × Rd)
set_option maxRecDepth 100000 in
set_option maxHeartbeats 4000000 in
theorem Pack1_ok (R : Rd) (x : RefD) (v0 : Value) (hg : GoodRefs [x]) (hs : RefsR R v0 [x]) : Fn Tryd.prog 19 [v0, .int .i64 1] [] R
    (fun v h => ∃ u ids C, v = .tuple ⟨[u, .int .i64 0]⟩ ∧ h = [.ro ids C] ∧ OneG C u x) := by
  have hML := maxLen_eq
  have hxm : x ∈ [x] := by simp
  have hcls := hg.cls hxm
  have hlo := hg.lo hxm
  have hs' := hs
  obtain ⟨_, A, cap, rfl, _⟩ := hs'
  obtain ⟨a, rfl, hra⟩ := hs.at_ (i := 0) (x := x) rfl
  refine fn_of_vc mixed tabOk Tryd.func19 rfl (by kernel_rfl) (Nat.le_of_ble_eq_true rfl) ?_
  repeat (first | (refine ⟨fun h => ?_, fun h => ?_⟩; rotate_left 1; (focus (exfalso; (first | (with_reducible (cases h; done)) | (revert h; simp; done) | (revert h; simp; omega) | (revert h; simp [*]; done)))); clear h) | (refine ⟨fun h => ?_, fun h => ?_⟩; (focus (exfalso; (first | (with_reducible (cases h; done)) | (revert h; simp; done) | (revert h; simp; omega) | (revert h; simp [*]; done)))); clear h))
  refine ⟨[], _, validRefs_ok _ [x] _ hg (hs.rh _), ?_⟩
  rintro _ _ ⟨rfl, rfl⟩
  repeat (first | (refine ⟨fun h => ?_, fun h => ?_⟩; rotate_left 1; (focus (exfalso; (first | (with_reducible (cases h; done)) | (revert h; simp; done) | (revert h; simp; omega) | (revert h; simp [*]; done)))); clear h) | (refine ⟨fun h => ?_, fun h => ?_⟩; (focus (exfalso; (first | (with_reducible (cases h; done)) | (revert h; simp; done) | (revert h; simp; omega) | (revert h; simp [*]; done)))); clear h))
  intro gm
  refine ⟨[none, none, none, none, none, none, some 6, none, none, some 9, some 10, some 11, some 12, some 13, none, none, none, none, none, none, none, none, none, none, none, none, none, none, some 28, some 29, some 30, some 31, some 32, some 33, some 34, some 35, some 36, some 37, some 38, some 39, some 40, some 41, some 42, some 43, some 44, some 45, some 46, some 47, some 48, some 49, some 50, some 51, some 52, some 53, some 54, some 55, some 56, some 57, some 58, some 59, some 60, some 61, some 62, some 63, some 64, some 65, some 66, some 67, some 68, some 69, some 70, some 71, some 72, some 73], [6, 28], PackSt, fun s => match s with
      | .none => True
      | some ((g, _, B, bc), _, C) => C ⟨g, 0, .none⟩ (.slice B 1 bc) ∧ RefsR C (.slice B 1 bc) [x],
    fun s => match s with
      | .none => [.slice .none 0 0, .int .i64 0]
      | some ((g, c, _, _), _, _) => [.slice (some ⟨g, 0, .none⟩) 1 c, .int .i64 1],
    fun s => match s with
      | .none => [.obj gm (.map #[] 0)]
      | some (_, ids, C) => [.ro ids C], fun s => match s with
      | .none => 1
      | some _ => 0, .none, trivial, ⟨rfl, rfl, trivial⟩, Ent.refl _, ?_⟩
  rintro (_ | ⟨⟨g, c, B, bc⟩, ids, C⟩) hinv js
  · repeat (first | (refine ⟨fun h => ?_, fun h => ?_⟩; rotate_left 1; (focus (exfalso; (first | (with_reducible (cases h; done)) | (revert h; simp; done) | (revert h; simp; omega) | (revert h; simp [*]; done)))); clear h) | (refine ⟨fun h => ?_, fun h => ?_⟩; (focus (exfalso; (first | (with_reducible (cases h; done)) | (revert h; simp; done) | (revert h; simp; omega) | (revert h; simp [*]; done)))); clear h))
    refine ⟨by decide, by show (0 : Int) < 1; decide, a, rfl, ?_⟩
    refine ⟨x.cells, fun j u hu => .inl (rdn (i := 0) hra j u hu), rfl, ?_⟩
    intro g9
    refine ⟨rfl, rfl, 1, rfl, rfl, Nat.le_of_ble_eq_true rfl, ?_⟩
    refine ⟨_, ld 1 rfl rfl, ?_⟩
    refine ⟨[], _, Class_ok _ x.sz hlo, ?_⟩
    rw [hcls]
    rintro _ _ ⟨rfl, rfl⟩
    refine ⟨0, rfl, fun e he => (by cases he), ?_⟩
    rintro vv b (⟨j, hf, _⟩ | ⟨_, rfl, rfl⟩)
    · cases hf
    repeat (first | (refine ⟨fun h => ?_, fun h => ?_⟩; rotate_left 1; (focus (exfalso; (first | (with_reducible (cases h; done)) | (revert h; simp; done) | (revert h; simp; omega) | (revert h; simp [*]; done)))); clear h) | (refine ⟨fun h => ?_, fun h => ?_⟩; (focus (exfalso; (first | (with_reducible (cases h; done)) | (revert h; simp; done) | (revert h; simp; omega) | (revert h; simp [*]; done)))); clear h))
    refine ⟨0, rfl, fun e he => (by cases he), ?_⟩
    rintro es' c' (⟨j, w, hf, _⟩ | ⟨_, rfl, rfl⟩)
    · cases hf
    refine ⟨rfl, fun g2 => ?_⟩
    refine ⟨[.slice .none 0 0], rfl, srcS (SlR.own 2 rfl rfl (.inr ⟨g2, rfl⟩)), rfl, by decide, by decide, .inl ⟨rfl, rfl, rfl, fun A' cap' hg' => ?_⟩⟩
    obtain ⟨g3, rfl⟩ := growA hg' (by decide)
    refine ⟨[3,1], (.q 0 (.q 1 (.q 2 (.q 3 (.q 4 (.q 5 (.q 6 (.one 7 (.one 8 (.q 9 (.fin 10))))))))))), by kernel_rfl, ?_⟩
    refine ⟨by decide, by decide, _, rfl, ?_⟩
    refine ⟨_, ldr1 (i := 0) 0 rfl rfl, ?_⟩
    refine ⟨x.cells, rdOff (o := 0) (n := 3) 1 rfl rfl, rfl, ?_⟩
    refine ⟨rfl, fun g4 => ?_⟩
    refine ⟨x.cells, rfl, srcS (SlR.own 2 rfl rfl (.inr ⟨g4, rfl⟩)), rfl, by decide, by decide, .inl ⟨rfl, rfl, rfl, fun B bc hgB => ?_⟩⟩
    refine ⟨by decide, by decide, _, rfl, ?_⟩
    refine ⟨rfl, rfl, 0, nthK_mk rfl (strow (i := 0) (by decide) ?_)⟩
    (intro z hz; obtain rfl : z = ((1 : Nat) : Int) := (by first | (rw [IntKind.wrap_i64] at hz; omega) | (rw [IntKind.wrap_u64] at hz; omega) | omega); clear hz)
    refine ⟨rfl, some ((g3, cap', B, bc), idsOf _, cellsOf _), ?inv, Nat.zero_lt_one, ⟨rfl, rfl, trivial⟩, Ent.freeze [] _, rfl⟩
    refine ⟨cells_rh (ldr 0 rfl rfl), ?_⟩
    show SlR _ 3 (.slice B 1 bc) 1 (refsC [x])
    refine SlR.mono ?_ fun _ _ => cells_rh
    exact SlR.own 5 rfl rfl hgB
  · repeat (first | (refine ⟨fun h => ?_, fun h => ?_⟩; rotate_left 1; (focus (exfalso; (first | (with_reducible (cases h; done)) | (revert h; simp; done) | (revert h; simp; omega) | (revert h; simp [*]; done)))); clear h) | (refine ⟨fun h => ?_, fun h => ?_⟩; (focus (exfalso; (first | (with_reducible (cases h; done)) | (revert h; simp; done) | (revert h; simp; omega) | (revert h; simp [*]; done)))); clear h))
    exact ⟨_, Ent.refl _, _, ids, C, rfl, rfl, _, c, B, bc, rfl, hinv.1, hinv.2⟩

theorem aw_make1 {R : Rd} (hG : ShaG R) {v3 v4 : Value} (h3 : RefsR R v3 awR) (h4 : Bss true R v4 awB) : Fn Tryd.prog 8 [.int .i64 0, .int .i64 1, .int .i64 1, v3, v4] [] R (MakeP 1 1 64 awB awR) :=
  Make_ok R hG 1 1 64 awB awR v3 v4 (by decide) (by decide) (by decide) (by decide) (by decide) (by decide) awB_blk rfl awR_good awR_cls h3 h4
set_option maxRecDepth 100000 in
set_option maxHeartbeats 4000000 in
theorem Awake21_ok (R : Rd) (hG : ShaG R) : Fn Tryd.prog 18 [] [] R (fun v h => v = .bool true ∧ h = []) := by
  refine fn_of_vc mixed tabOk Tryd.func18 rfl (by kernel_rfl) (Nat.le_of_ble_eq_true rfl) ?_
  refine ⟨[], .cut (.three 0 (.q 1 (.three 2 (.two 3 (.two 4 (.two 5 (.q 6 (.q 7 (.q 8 (.q 9 (.one 10 (.one 11 (.q 12 (.q 13 .nil)))))))) 10 (.one 5 (.q 6 (.q 7 (.q 8 (.q 9 (.one 11 (.q 12 (.q 13 .nil))))))))) 10 (.one 4 (.one 5 (.q 6 (.q 7 (.q 8 (.q 9 (.one 11 (.q 12 (.q 13 .nil)))))))))) 10 (.one 3 (.one 4 (.one 5 (.q 6 (.q 7 (.q 8 (.q 9 (.one 11 (.q 12 (.q 13 .nil))))))))))) 3 (.three 2 (.two 4 (.two 5 (.q 6 (.q 7 (.q 8 (.q 9 (.one 10 (.one 11 (.q 12 (.q 13 .nil)))))))) 10 (.one 5 (.q 6 (.q 7 (.q 8 (.q 9 (.one 11 (.q 12 (.q 13 .nil))))))))) 10 (.one 4 (.one 5 (.q 6 (.q 7 (.q 8 (.q 9 (.one 11 (.q 12 (.q 13 .nil)))))))))) 4 (.two 2 (.two 5 (.q 6 (.q 7 (.q 8 (.q 9 (.one 10 (.one 11 (.q 12 (.q 13 .nil)))))))) 10 (.one 5 (.q 6 (.q 7 (.q 8 (.q 9 (.one 11 (.q 12 (.q 13 .nil))))))))) 10 (.one 2 (.one 5 (.q 6 (.q 7 (.q 8 (.q 9 (.one 11 (.q 12 (.q 13 .nil)))))))))) 10 (.two 2 (.one 4 (.one 5 (.q 6 (.q 7 (.q 8 (.q 9 (.one 11 (.q 12 (.q 13 .nil))))))))) 4 (.one 2 (.one 5 (.q 6 (.q 7 (.q 8 (.q 9 (.one 11 (.q 12 (.q 13 .nil))))))))))) 10 (.two 2 (.one 3 (.one 4 (.one 5 (.q 6 (.q 7 (.q 8 (.q 9 (.one 11 (.q 12 (.q 13 .nil)))))))))) 3 (.two 2 (.one 4 (.one 5 (.q 6 (.q 7 (.q 8 (.q 9 (.one 11 (.q 12 (.q 13 .nil))))))))) 4 (.one 2 (.one 5 (.q 6 (.q 7 (.q 8 (.q 9 (.one 11 (.q 12 (.q 13 .nil))))))))))))) 3 (.three 0 (.q 1 (.three 2 (.two 4 (.two 5 (.q 6 (.q 7 (.q 8 (.q 9 (.one 10 (.one 11 (.q 12 (.q 13 .nil)))))))) 10 (.one 5 (.q 6 (.q 7 (.q 8 (.q 9 (.one 11 (.q 12 (.q 13 .nil))))))))) 10 (.one 4 (.one 5 (.q 6 (.q 7 (.q 8 (.q 9 (.one 11 (.q 12 (.q 13 .nil)))))))))) 4 (.two 2 (.two 5 (.q 6 (.q 7 (.q 8 (.q 9 (.one 10 (.one 11 (.q 12 (.q 13 .nil)))))))) 10 (.one 5 (.q 6 (.q 7 (.q 8 (.q 9 (.one 11 (.q 12 (.q 13 .nil))))))))) 10 (.one 2 (.one 5 (.q 6 (.q 7 (.q 8 (.q 9 (.one 11 (.q 12 (.q 13 .nil)))))))))) 10 (.two 2 (.one 4 (.one 5 (.q 6 (.q 7 (.q 8 (.q 9 (.one 11 (.q 12 (.q 13 .nil))))))))) 4 (.one 2 (.one 5 (.q 6 (.q 7 (.q 8 (.q 9 (.one 11 (.q 12 (.q 13 .nil)))))))))))) 4 (.two 0 (.q 1 (.two 2 (.two 5 (.q 6 (.q 7 (.q 8 (.q 9 (.one 10 (.one 11 (.q 12 (.q 13 .nil)))))))) 10 (.one 5 (.q 6 (.q 7 (.q 8 (.q 9 (.one 11 (.q 12 (.q 13 .nil))))))))) 10 (.one 2 (.one 5 (.q 6 (.q 7 (.q 8 (.q 9 (.one 11 (.q 12 (.q 13 .nil))))))))))) 10 (.one 0 (.q 1 (.one 2 (.one 5 (.q 6 (.q 7 (.q 8 (.q 9 (.one 11 (.q 12 (.q 13 .nil)))))))))))) 10 (.two 0 (.q 1 (.two 2 (.one 4 (.one 5 (.q 6 (.q 7 (.q 8 (.q 9 (.one 11 (.q 12 (.q 13 .nil))))))))) 4 (.one 2 (.one 5 (.q 6 (.q 7 (.q 8 (.q 9 (.one 11 (.q 12 (.q 13 .nil))))))))))) 4 (.one 0 (.q 1 (.one 2 (.one 5 (.q 6 (.q 7 (.q 8 (.q 9 (.one 11 (.q 12 (.q 13 .nil))))))))))))) 10 (.two 0 (.q 1 (.two 2 (.one 3 (.one 4 (.one 5 (.q 6 (.q 7 (.q 8 (.q 9 (.one 11 (.q 12 (.q 13 .nil)))))))))) 3 (.two 2 (.one 4 (.one 5 (.q 6 (.q 7 (.q 8 (.q 9 (.one 11 (.q 12 (.q 13 .nil))))))))) 4 (.one 2 (.one 5 (.q 6 (.q 7 (.q 8 (.q 9 (.one 11 (.q 12 (.q 13 .nil)))))))))))) 3 (.two 0 (.q 1 (.two 2 (.one 4 (.one 5 (.q 6 (.q 7 (.q 8 (.q 9 (.one 11 (.q 12 (.q 13 .nil))))))))) 4 (.one 2 (.one 5 (.q 6 (.q 7 (.q 8 (.q 9 (.one 11 (.q 12 (.q 13 .nil))))))))))) 4 (.one 0 (.q 1 (.one 2 (.one 5 (.q 6 (.q 7 (.q 8 (.q 9 (.one 11 (.q 12 (.q 13 .nil)))))))))))))), by kernel_rfl, [none, some 1, some 2, some 3, none, none, some 6, some 7, some 8, some 9, some 10, some 11, some 12, some 13, some 14, some 15], ?_⟩
  refine ⟨[1, 2, 3], Nat × Value × Value × List Nat × Rd, fun ⟨g, u, Rf, ids, C⟩ => PcsR C u (pcsE (rsE 1 1 awB 64)) ∧ RefsR C Rf awR, fun ⟨g, u, Rf, ids, C⟩ => [.pointer (some ⟨g, 0, .none⟩), u, .int .i64 0],
    fun ⟨g, u, Rf, ids, C⟩ => [.ro ids C, .blk g 35 (stpC (mkSt 1 1 64 awB) Rf)], ?_, ?_⟩
  · refine ⟨?_, ?_, ?_⟩
    · refine ⟨[], _, Name15_ok _ 1 1, ?_⟩
      rintro _ _ ⟨rfl, rfl⟩
      refine ⟨?_, ?_, ?_⟩
      · refine ⟨rfl, fun g1 => ?_⟩
        refine ⟨?_, ?_⟩
        · refine ⟨by omega, by omega, by decide, by decide, fun g2 => ?_⟩
          refine ⟨?_, ?_⟩
          · refine ⟨rfl, fun g3 => ?_⟩
            refine ⟨?_, ?_⟩
            · refine ⟨[], _, aw_make1 ((hG.rh _).rh _) (aw_refs 0 rfl) (aw_blk 2 1 rfl rfl), ?_⟩
              rintro _ _ ⟨u, Rf, ids, C, rfl, rfl, hu, hR⟩
              have hR' := hR
              obtain ⟨_, Ar, cr, rfl, _⟩ := hR'
              intro g4
              refine ⟨rfl, rfl, 4, rfl, rfl, Nat.le_of_ble_eq_true rfl, ?_⟩
              exact ⟨rfl, (g4, u, _, ids, C), ⟨hu, hR⟩, ⟨rfl, rfl, rfl, trivial⟩, Ent.pick [3, 3] rfl, rfl⟩
            · intro g4
              refine ⟨[], _, aw_make1 ((hG.rh _).rh _) (aw_refs 0 rfl) (aw_blk 2 1 rfl rfl), ?_⟩
              rintro _ _ ⟨u, Rf, ids, C, rfl, rfl, hu, hR⟩
              have hR' := hR
              obtain ⟨_, Ar, cr, rfl, _⟩ := hR'
              refine ⟨rfl, rfl, 3, rfl, rfl, Nat.le_of_ble_eq_true rfl, ?_⟩
              exact ⟨rfl, (g4, u, _, ids, C), ⟨hu, hR⟩, ⟨rfl, rfl, rfl, trivial⟩, Ent.pick [4, 3] rfl, rfl⟩
          · intro g4
            refine ⟨rfl, fun g3 => ?_⟩
            refine ⟨[], _, aw_make1 ((hG.rh _).rh _) (aw_refs 0 rfl) (aw_blk 3 1 rfl rfl), ?_⟩
            rintro _ _ ⟨u, Rf, ids, C, rfl, rfl, hu, hR⟩
            have hR' := hR
            obtain ⟨_, Ar, cr, rfl, _⟩ := hR'
            refine ⟨rfl, rfl, 2, rfl, rfl, Nat.le_of_ble_eq_true rfl, ?_⟩
            exact ⟨rfl, (g4, u, _, ids, C), ⟨hu, hR⟩, ⟨rfl, rfl, rfl, trivial⟩, Ent.pick [4, 2] rfl, rfl⟩
        · intro g4
          refine ⟨by omega, by omega, by decide, by decide, fun g2 => ?_⟩
          refine ⟨rfl, fun g3 => ?_⟩
          refine ⟨[], _, aw_make1 ((hG.rh _).rh _) (aw_refs 0 rfl) (aw_blk 3 2 rfl rfl), ?_⟩
          rintro _ _ ⟨u, Rf, ids, C, rfl, rfl, hu, hR⟩
          have hR' := hR
          obtain ⟨_, Ar, cr, rfl, _⟩ := hR'
          refine ⟨rfl, rfl, 1, rfl, rfl, Nat.le_of_ble_eq_true rfl, ?_⟩
          exact ⟨rfl, (g4, u, _, ids, C), ⟨hu, hR⟩, ⟨rfl, rfl, rfl, trivial⟩, Ent.pick [4, 1] rfl, rfl⟩
      · refine ⟨by omega, by omega, by decide, by decide, fun g2 => ?_⟩
        refine ⟨?_, ?_, ?_⟩
        · refine ⟨rfl, fun g1 => ?_⟩
          refine ⟨?_, ?_⟩
          · refine ⟨rfl, fun g3 => ?_⟩
            refine ⟨?_, ?_⟩
            · refine ⟨[], _, aw_make1 ((hG.rh _).rh _) (aw_refs 1 rfl) (aw_blk 2 0 rfl rfl), ?_⟩
              rintro _ _ ⟨u, Rf, ids, C, rfl, rfl, hu, hR⟩
              have hR' := hR
              obtain ⟨_, Ar, cr, rfl, _⟩ := hR'
              intro g4
              refine ⟨rfl, rfl, 4, rfl, rfl, Nat.le_of_ble_eq_true rfl, ?_⟩
              exact ⟨rfl, (g4, u, _, ids, C), ⟨hu, hR⟩, ⟨rfl, rfl, rfl, trivial⟩, Ent.pick [3, 3] rfl, rfl⟩
            · intro g4
              refine ⟨[], _, aw_make1 ((hG.rh _).rh _) (aw_refs 1 rfl) (aw_blk 2 0 rfl rfl), ?_⟩
              rintro _ _ ⟨u, Rf, ids, C, rfl, rfl, hu, hR⟩
              have hR' := hR
              obtain ⟨_, Ar, cr, rfl, _⟩ := hR'
              refine ⟨rfl, rfl, 3, rfl, rfl, Nat.le_of_ble_eq_true rfl, ?_⟩
              exact ⟨rfl, (g4, u, _, ids, C), ⟨hu, hR⟩, ⟨rfl, rfl, rfl, trivial⟩, Ent.pick [4, 3] rfl, rfl⟩
          · intro g4
            refine ⟨rfl, fun g3 => ?_⟩
            refine ⟨[], _, aw_make1 ((hG.rh _).rh _) (aw_refs 1 rfl) (aw_blk 3 0 rfl rfl), ?_⟩
            rintro _ _ ⟨u, Rf, ids, C, rfl, rfl, hu, hR⟩
            have hR' := hR
            obtain ⟨_, Ar, cr, rfl, _⟩ := hR'
            refine ⟨rfl, rfl, 2, rfl, rfl, Nat.le_of_ble_eq_true rfl, ?_⟩
            exact ⟨rfl, (g4, u, _, ids, C), ⟨hu, hR⟩, ⟨rfl, rfl, rfl, trivial⟩, Ent.pick [4, 2] rfl, rfl⟩
        · refine ⟨rfl, fun g3 => ?_⟩
          refine ⟨?_, ?_⟩
          · refine ⟨rfl, fun g1 => ?_⟩
            refine ⟨?_, ?_⟩
            · refine ⟨[], _, aw_make1 ((hG.rh _).rh _) (aw_refs 2 rfl) (aw_blk 1 0 rfl rfl), ?_⟩
              rintro _ _ ⟨u, Rf, ids, C, rfl, rfl, hu, hR⟩
              have hR' := hR
              obtain ⟨_, Ar, cr, rfl, _⟩ := hR'
              intro g4
              refine ⟨rfl, rfl, 4, rfl, rfl, Nat.le_of_ble_eq_true rfl, ?_⟩
              exact ⟨rfl, (g4, u, _, ids, C), ⟨hu, hR⟩, ⟨rfl, rfl, rfl, trivial⟩, Ent.pick [3, 3] rfl, rfl⟩
            · intro g4
              refine ⟨[], _, aw_make1 ((hG.rh _).rh _) (aw_refs 2 rfl) (aw_blk 1 0 rfl rfl), ?_⟩
              rintro _ _ ⟨u, Rf, ids, C, rfl, rfl, hu, hR⟩
              have hR' := hR
              obtain ⟨_, Ar, cr, rfl, _⟩ := hR'
              refine ⟨rfl, rfl, 3, rfl, rfl, Nat.le_of_ble_eq_true rfl, ?_⟩
              exact ⟨rfl, (g4, u, _, ids, C), ⟨hu, hR⟩, ⟨rfl, rfl, rfl, trivial⟩, Ent.pick [4, 3] rfl, rfl⟩
          · intro g4
            refine ⟨rfl, fun g1 => ?_⟩
            refine ⟨[], _, aw_make1 ((hG.rh _).rh _) (aw_refs 3 rfl) (aw_blk 1 0 rfl rfl), ?_⟩
            rintro _ _ ⟨u, Rf, ids, C, rfl, rfl, hu, hR⟩
            have hR' := hR
            obtain ⟨_, Ar, cr, rfl, _⟩ := hR'
            refine ⟨rfl, rfl, 2, rfl, rfl, Nat.le_of_ble_eq_true rfl, ?_⟩
            exact ⟨rfl, (g4, u, _, ids, C), ⟨hu, hR⟩, ⟨rfl, rfl, rfl, trivial⟩, Ent.pick [4, 2] rfl, rfl⟩
        · intro g4
          refine ⟨?_, ?_⟩
          · refine ⟨rfl, fun g1 => ?_⟩
            refine ⟨rfl, fun g3 => ?_⟩
            refine ⟨[], _, aw_make1 ((hG.rh _).rh _) (aw_refs 2 rfl) (aw_blk 3 0 rfl rfl), ?_⟩
            rintro _ _ ⟨u, Rf, ids, C, rfl, rfl, hu, hR⟩
            have hR' := hR
            obtain ⟨_, Ar, cr, rfl, _⟩ := hR'
            refine ⟨rfl, rfl, 1, rfl, rfl, Nat.le_of_ble_eq_true rfl, ?_⟩
            exact ⟨rfl, (g4, u, _, ids, C), ⟨hu, hR⟩, ⟨rfl, rfl, rfl, trivial⟩, Ent.pick [4, 1] rfl, rfl⟩
          · refine ⟨rfl, fun g3 => ?_⟩
            refine ⟨rfl, fun g1 => ?_⟩
            refine ⟨[], _, aw_make1 ((hG.rh _).rh _) (aw_refs 3 rfl) (aw_blk 2 0 rfl rfl), ?_⟩
            rintro _ _ ⟨u, Rf, ids, C, rfl, rfl, hu, hR⟩
            have hR' := hR
            obtain ⟨_, Ar, cr, rfl, _⟩ := hR'
            refine ⟨rfl, rfl, 1, rfl, rfl, Nat.le_of_ble_eq_true rfl, ?_⟩
            exact ⟨rfl, (g4, u, _, ids, C), ⟨hu, hR⟩, ⟨rfl, rfl, rfl, trivial⟩, Ent.pick [4, 1] rfl, rfl⟩
      · intro g4
        refine ⟨?_, ?_⟩
        · refine ⟨rfl, fun g1 => ?_⟩
          refine ⟨by omega, by omega, by decide, by decide, fun g2 => ?_⟩
          refine ⟨rfl, fun g3 => ?_⟩
          refine ⟨[], _, aw_make1 ((hG.rh _).rh _) (aw_refs 1 rfl) (aw_blk 3 2 rfl rfl), ?_⟩
          rintro _ _ ⟨u, Rf, ids, C, rfl, rfl, hu, hR⟩
          have hR' := hR
          obtain ⟨_, Ar, cr, rfl, _⟩ := hR'
          refine ⟨rfl, rfl, 0, rfl, rfl, Nat.le_of_ble_eq_true rfl, ?_⟩
          exact ⟨rfl, (g4, u, _, ids, C), ⟨hu, hR⟩, ⟨rfl, rfl, rfl, trivial⟩, Ent.pick [4, 0] rfl, rfl⟩
        · refine ⟨by omega, by omega, by decide, by decide, fun g2 => ?_⟩
          refine ⟨?_, ?_⟩
          · refine ⟨rfl, fun g1 => ?_⟩
            refine ⟨rfl, fun g3 => ?_⟩
            refine ⟨[], _, aw_make1 ((hG.rh _).rh _) (aw_refs 2 rfl) (aw_blk 3 1 rfl rfl), ?_⟩
            rintro _ _ ⟨u, Rf, ids, C, rfl, rfl, hu, hR⟩
            have hR' := hR
            obtain ⟨_, Ar, cr, rfl, _⟩ := hR'
            refine ⟨rfl, rfl, 0, rfl, rfl, Nat.le_of_ble_eq_true rfl, ?_⟩
            exact ⟨rfl, (g4, u, _, ids, C), ⟨hu, hR⟩, ⟨rfl, rfl, rfl, trivial⟩, Ent.pick [4, 0] rfl, rfl⟩
          · refine ⟨rfl, fun g3 => ?_⟩
            refine ⟨rfl, fun g1 => ?_⟩
            refine ⟨[], _, aw_make1 ((hG.rh _).rh _) (aw_refs 3 rfl) (aw_blk 2 1 rfl rfl), ?_⟩
            rintro _ _ ⟨u, Rf, ids, C, rfl, rfl, hu, hR⟩
            have hR' := hR
            obtain ⟨_, Ar, cr, rfl, _⟩ := hR'
            refine ⟨rfl, rfl, 0, rfl, rfl, Nat.le_of_ble_eq_true rfl, ?_⟩
            exact ⟨rfl, (g4, u, _, ids, C), ⟨hu, hR⟩, ⟨rfl, rfl, rfl, trivial⟩, Ent.pick [4, 0] rfl, rfl⟩
    · refine ⟨by omega, by omega, by decide, by decide, fun g2 => ?_⟩
      refine ⟨?_, ?_, ?_⟩
      · refine ⟨[], _, Name15_ok _ 1 1, ?_⟩
        rintro _ _ ⟨rfl, rfl⟩
        refine ⟨?_, ?_, ?_⟩
        · refine ⟨rfl, fun g1 => ?_⟩
          refine ⟨?_, ?_⟩
          · refine ⟨rfl, fun g3 => ?_⟩
            refine ⟨?_, ?_⟩
            · refine ⟨[], _, aw_make1 ((hG.rh _).rh _) (aw_refs 1 rfl) (aw_blk 2 0 rfl rfl), ?_⟩
              rintro _ _ ⟨u, Rf, ids, C, rfl, rfl, hu, hR⟩
              have hR' := hR
              obtain ⟨_, Ar, cr, rfl, _⟩ := hR'
              intro g4
              refine ⟨rfl, rfl, 4, rfl, rfl, Nat.le_of_ble_eq_true rfl, ?_⟩
              exact ⟨rfl, (g4, u, _, ids, C), ⟨hu, hR⟩, ⟨rfl, rfl, rfl, trivial⟩, Ent.pick [3, 3] rfl, rfl⟩
            · intro g4
              refine ⟨[], _, aw_make1 ((hG.rh _).rh _) (aw_refs 1 rfl) (aw_blk 2 0 rfl rfl), ?_⟩
              rintro _ _ ⟨u, Rf, ids, C, rfl, rfl, hu, hR⟩
              have hR' := hR
              obtain ⟨_, Ar, cr, rfl, _⟩ := hR'
              refine ⟨rfl, rfl, 3, rfl, rfl, Nat.le_of_ble_eq_true rfl, ?_⟩
              exact ⟨rfl, (g4, u, _, ids, C), ⟨hu, hR⟩, ⟨rfl, rfl, rfl, trivial⟩, Ent.pick [4, 3] rfl, rfl⟩
          · intro g4
            refine ⟨rfl, fun g3 => ?_⟩
            refine ⟨[], _, aw_make1 ((hG.rh _).rh _) (aw_refs 1 rfl) (aw_blk 3 0 rfl rfl), ?_⟩
            rintro _ _ ⟨u, Rf, ids, C, rfl, rfl, hu, hR⟩
            have hR' := hR
            obtain ⟨_, Ar, cr, rfl, _⟩ := hR'
            refine ⟨rfl, rfl, 2, rfl, rfl, Nat.le_of_ble_eq_true rfl, ?_⟩
            exact ⟨rfl, (g4, u, _, ids, C), ⟨hu, hR⟩, ⟨rfl, rfl, rfl, trivial⟩, Ent.pick [4, 2] rfl, rfl⟩
        · refine ⟨rfl, fun g3 => ?_⟩
          refine ⟨?_, ?_⟩
          · refine ⟨rfl, fun g1 => ?_⟩
            refine ⟨?_, ?_⟩
            · refine ⟨[], _, aw_make1 ((hG.rh _).rh _) (aw_refs 2 rfl) (aw_blk 1 0 rfl rfl), ?_⟩
              rintro _ _ ⟨u, Rf, ids, C, rfl, rfl, hu, hR⟩
              have hR' := hR
              obtain ⟨_, Ar, cr, rfl, _⟩ := hR'
              intro g4
              refine ⟨rfl, rfl, 4, rfl, rfl, Nat.le_of_ble_eq_true rfl, ?_⟩
              exact ⟨rfl, (g4, u, _, ids, C), ⟨hu, hR⟩, ⟨rfl, rfl, rfl, trivial⟩, Ent.pick [3, 3] rfl, rfl⟩
            · intro g4
              refine ⟨[], _, aw_make1 ((hG.rh _).rh _) (aw_refs 2 rfl) (aw_blk 1 0 rfl rfl), ?_⟩
              rintro _ _ ⟨u, Rf, ids, C, rfl, rfl, hu, hR⟩
              have hR' := hR
              obtain ⟨_, Ar, cr, rfl, _⟩ := hR'
              refine ⟨rfl, rfl, 3, rfl, rfl, Nat.le_of_ble_eq_true rfl, ?_⟩
              exact ⟨rfl, (g4, u, _, ids, C), ⟨hu, hR⟩, ⟨rfl, rfl, rfl, trivial⟩, Ent.pick [4, 3] rfl, rfl⟩
          · intro g4
            refine ⟨rfl, fun g1 => ?_⟩
            refine ⟨[], _, aw_make1 ((hG.rh _).rh _) (aw_refs 3 rfl) (aw_blk 1 0 rfl rfl), ?_⟩
            rintro _ _ ⟨u, Rf, ids, C, rfl, rfl, hu, hR⟩
            have hR' := hR
            obtain ⟨_, Ar, cr, rfl, _⟩ := hR'
            refine ⟨rfl, rfl, 2, rfl, rfl, Nat.le_of_ble_eq_true rfl, ?_⟩
            exact ⟨rfl, (g4, u, _, ids, C), ⟨hu, hR⟩, ⟨rfl, rfl, rfl, trivial⟩, Ent.pick [4, 2] rfl, rfl⟩
        · intro g4
          refine ⟨?_, ?_⟩
          · refine ⟨rfl, fun g1 => ?_⟩
            refine ⟨rfl, fun g3 => ?_⟩
            refine ⟨[], _, aw_make1 ((hG.rh _).rh _) (aw_refs 2 rfl) (aw_blk 3 0 rfl rfl), ?_⟩
            rintro _ _ ⟨u, Rf, ids, C, rfl, rfl, hu, hR⟩
            have hR' := hR
            obtain ⟨_, Ar, cr, rfl, _⟩ := hR'
            refine ⟨rfl, rfl, 1, rfl, rfl, Nat.le_of_ble_eq_true rfl, ?_⟩
            exact ⟨rfl, (g4, u, _, ids, C), ⟨hu, hR⟩, ⟨rfl, rfl, rfl, trivial⟩, Ent.pick [4, 1] rfl, rfl⟩
          · refine ⟨rfl, fun g3 => ?_⟩
            refine ⟨rfl, fun g1 => ?_⟩
            refine ⟨[], _, aw_make1 ((hG.rh _).rh _) (aw_refs 3 rfl) (aw_blk 2 0 rfl rfl), ?_⟩
            rintro _ _ ⟨u, Rf, ids, C, rfl, rfl, hu, hR⟩
            have hR' := hR
            obtain ⟨_, Ar, cr, rfl, _⟩ := hR'
            refine ⟨rfl, rfl, 1, rfl, rfl, Nat.le_of_ble_eq_true rfl, ?_⟩
            exact ⟨rfl, (g4, u, _, ids, C), ⟨hu, hR⟩, ⟨rfl, rfl, rfl, trivial⟩, Ent.pick [4, 1] rfl, rfl⟩
      · refine ⟨rfl, fun g3 => ?_⟩
        refine ⟨?_, ?_⟩
        · refine ⟨[], _, Name15_ok _ 1 1, ?_⟩
          rintro _ _ ⟨rfl, rfl⟩
          refine ⟨?_, ?_⟩
          · refine ⟨rfl, fun g1 => ?_⟩
            refine ⟨?_, ?_⟩
            · refine ⟨[], _, aw_make1 ((hG.rh _).rh _) (aw_refs 2 rfl) (aw_blk 1 0 rfl rfl), ?_⟩
              rintro _ _ ⟨u, Rf, ids, C, rfl, rfl, hu, hR⟩
              have hR' := hR
              obtain ⟨_, Ar, cr, rfl, _⟩ := hR'
              intro g4
              refine ⟨rfl, rfl, 4, rfl, rfl, Nat.le_of_ble_eq_true rfl, ?_⟩
              exact ⟨rfl, (g4, u, _, ids, C), ⟨hu, hR⟩, ⟨rfl, rfl, rfl, trivial⟩, Ent.pick [3, 3] rfl, rfl⟩
            · intro g4
              refine ⟨[], _, aw_make1 ((hG.rh _).rh _) (aw_refs 2 rfl) (aw_blk 1 0 rfl rfl), ?_⟩
              rintro _ _ ⟨u, Rf, ids, C, rfl, rfl, hu, hR⟩
              have hR' := hR
              obtain ⟨_, Ar, cr, rfl, _⟩ := hR'
              refine ⟨rfl, rfl, 3, rfl, rfl, Nat.le_of_ble_eq_true rfl, ?_⟩
              exact ⟨rfl, (g4, u, _, ids, C), ⟨hu, hR⟩, ⟨rfl, rfl, rfl, trivial⟩, Ent.pick [4, 3] rfl, rfl⟩
          · intro g4
            refine ⟨rfl, fun g1 => ?_⟩
            refine ⟨[], _, aw_make1 ((hG.rh _).rh _) (aw_refs 3 rfl) (aw_blk 1 0 rfl rfl), ?_⟩
            rintro _ _ ⟨u, Rf, ids, C, rfl, rfl, hu, hR⟩
            have hR' := hR
            obtain ⟨_, Ar, cr, rfl, _⟩ := hR'
            refine ⟨rfl, rfl, 2, rfl, rfl, Nat.le_of_ble_eq_true rfl, ?_⟩
            exact ⟨rfl, (g4, u, _, ids, C), ⟨hu, hR⟩, ⟨rfl, rfl, rfl, trivial⟩, Ent.pick [4, 2] rfl, rfl⟩
        · intro g4
          refine ⟨[], _, Name15_ok _ 1 1, ?_⟩
          rintro _ _ ⟨rfl, rfl⟩
          refine ⟨rfl, fun g1 => ?_⟩
          refine ⟨[], _, aw_make1 ((hG.rh _).rh _) (aw_refs 3 rfl) (aw_blk 1 0 rfl rfl), ?_⟩
          rintro _ _ ⟨u, Rf, ids, C, rfl, rfl, hu, hR⟩
          have hR' := hR
          obtain ⟨_, Ar, cr, rfl, _⟩ := hR'
          refine ⟨rfl, rfl, 2, rfl, rfl, Nat.le_of_ble_eq_true rfl, ?_⟩
          exact ⟨rfl, (g4, u, _, ids, C), ⟨hu, hR⟩, ⟨rfl, rfl, rfl, trivial⟩, Ent.pick [4, 2] rfl, rfl⟩
      · intro g4
        refine ⟨?_, ?_⟩
        · refine ⟨[], _, Name15_ok _ 1 1, ?_⟩
          rintro _ _ ⟨rfl, rfl⟩
          refine ⟨?_, ?_⟩
          · refine ⟨rfl, fun g1 => ?_⟩
            refine ⟨rfl, fun g3 => ?_⟩
            refine ⟨[], _, aw_make1 ((hG.rh _).rh _) (aw_refs 2 rfl) (aw_blk 3 0 rfl rfl), ?_⟩
            rintro _ _ ⟨u, Rf, ids, C, rfl, rfl, hu, hR⟩
            have hR' := hR
            obtain ⟨_, Ar, cr, rfl, _⟩ := hR'
            refine ⟨rfl, rfl, 1, rfl, rfl, Nat.le_of_ble_eq_true rfl, ?_⟩
            exact ⟨rfl, (g4, u, _, ids, C), ⟨hu, hR⟩, ⟨rfl, rfl, rfl, trivial⟩, Ent.pick [4, 1] rfl, rfl⟩
          · refine ⟨rfl, fun g3 => ?_⟩
            refine ⟨rfl, fun g1 => ?_⟩
            refine ⟨[], _, aw_make1 ((hG.rh _).rh _) (aw_refs 3 rfl) (aw_blk 2 0 rfl rfl), ?_⟩
            rintro _ _ ⟨u, Rf, ids, C, rfl, rfl, hu, hR⟩
            have hR' := hR
            obtain ⟨_, Ar, cr, rfl, _⟩ := hR'
            refine ⟨rfl, rfl, 1, rfl, rfl, Nat.le_of_ble_eq_true rfl, ?_⟩
            exact ⟨rfl, (g4, u, _, ids, C), ⟨hu, hR⟩, ⟨rfl, rfl, rfl, trivial⟩, Ent.pick [4, 1] rfl, rfl⟩
        · refine ⟨rfl, fun g3 => ?_⟩
          refine ⟨[], _, Name15_ok _ 1 1, ?_⟩
          rintro _ _ ⟨rfl, rfl⟩
          refine ⟨rfl, fun g1 => ?_⟩
          refine ⟨[], _, aw_make1 ((hG.rh _).rh _) (aw_refs 3 rfl) (aw_blk 2 0 rfl rfl), ?_⟩
          rintro _ _ ⟨u, Rf, ids, C, rfl, rfl, hu, hR⟩
          have hR' := hR
          obtain ⟨_, Ar, cr, rfl, _⟩ := hR'
          refine ⟨rfl, rfl, 1, rfl, rfl, Nat.le_of_ble_eq_true rfl, ?_⟩
          exact ⟨rfl, (g4, u, _, ids, C), ⟨hu, hR⟩, ⟨rfl, rfl, rfl, trivial⟩, Ent.pick [4, 1] rfl, rfl⟩
    · intro g4
      refine ⟨?_, ?_⟩
      · refine ⟨[], _, Name15_ok _ 1 1, ?_⟩
        rintro _ _ ⟨rfl, rfl⟩
        refine ⟨?_, ?_⟩
        · refine ⟨rfl, fun g1 => ?_⟩
          refine ⟨by omega, by omega, by decide, by decide, fun g2 => ?_⟩
          refine ⟨rfl, fun g3 => ?_⟩
          refine ⟨[], _, aw_make1 ((hG.rh _).rh _) (aw_refs 1 rfl) (aw_blk 3 2 rfl rfl), ?_⟩
          rintro _ _ ⟨u, Rf, ids, C, rfl, rfl, hu, hR⟩
          have hR' := hR
          obtain ⟨_, Ar, cr, rfl, _⟩ := hR'
          refine ⟨rfl, rfl, 0, rfl, rfl, Nat.le_of_ble_eq_true rfl, ?_⟩
          exact ⟨rfl, (g4, u, _, ids, C), ⟨hu, hR⟩, ⟨rfl, rfl, rfl, trivial⟩, Ent.pick [4, 0] rfl, rfl⟩
        · refine ⟨by omega, by omega, by decide, by decide, fun g2 => ?_⟩
          refine ⟨?_, ?_⟩
          · refine ⟨rfl, fun g1 => ?_⟩
            refine ⟨rfl, fun g3 => ?_⟩
            refine ⟨[], _, aw_make1 ((hG.rh _).rh _) (aw_refs 2 rfl) (aw_blk 3 1 rfl rfl), ?_⟩
            rintro _ _ ⟨u, Rf, ids, C, rfl, rfl, hu, hR⟩
            have hR' := hR
            obtain ⟨_, Ar, cr, rfl, _⟩ := hR'
            refine ⟨rfl, rfl, 0, rfl, rfl, Nat.le_of_ble_eq_true rfl, ?_⟩
            exact ⟨rfl, (g4, u, _, ids, C), ⟨hu, hR⟩, ⟨rfl, rfl, rfl, trivial⟩, Ent.pick [4, 0] rfl, rfl⟩
          · refine ⟨rfl, fun g3 => ?_⟩
            refine ⟨rfl, fun g1 => ?_⟩
            refine ⟨[], _, aw_make1 ((hG.rh _).rh _) (aw_refs 3 rfl) (aw_blk 2 1 rfl rfl), ?_⟩
            rintro _ _ ⟨u, Rf, ids, C, rfl, rfl, hu, hR⟩
            have hR' := hR
            obtain ⟨_, Ar, cr, rfl, _⟩ := hR'
            refine ⟨rfl, rfl, 0, rfl, rfl, Nat.le_of_ble_eq_true rfl, ?_⟩
            exact ⟨rfl, (g4, u, _, ids, C), ⟨hu, hR⟩, ⟨rfl, rfl, rfl, trivial⟩, Ent.pick [4, 0] rfl, rfl⟩
      · refine ⟨by omega, by omega, by decide, by decide, fun g2 => ?_⟩
        refine ⟨?_, ?_⟩
        · refine ⟨[], _, Name15_ok _ 1 1, ?_⟩
          rintro _ _ ⟨rfl, rfl⟩
          refine ⟨?_, ?_⟩
          · refine ⟨rfl, fun g1 => ?_⟩
            refine ⟨rfl, fun g3 => ?_⟩
            refine ⟨[], _, aw_make1 ((hG.rh _).rh _) (aw_refs 2 rfl) (aw_blk 3 1 rfl rfl), ?_⟩
            rintro _ _ ⟨u, Rf, ids, C, rfl, rfl, hu, hR⟩
            have hR' := hR
            obtain ⟨_, Ar, cr, rfl, _⟩ := hR'
            refine ⟨rfl, rfl, 0, rfl, rfl, Nat.le_of_ble_eq_true rfl, ?_⟩
            exact ⟨rfl, (g4, u, _, ids, C), ⟨hu, hR⟩, ⟨rfl, rfl, rfl, trivial⟩, Ent.pick [4, 0] rfl, rfl⟩
          · refine ⟨rfl, fun g3 => ?_⟩
            refine ⟨rfl, fun g1 => ?_⟩
            refine ⟨[], _, aw_make1 ((hG.rh _).rh _) (aw_refs 3 rfl) (aw_blk 2 1 rfl rfl), ?_⟩
            rintro _ _ ⟨u, Rf, ids, C, rfl, rfl, hu, hR⟩
            have hR' := hR
            obtain ⟨_, Ar, cr, rfl, _⟩ := hR'
            refine ⟨rfl, rfl, 0, rfl, rfl, Nat.le_of_ble_eq_true rfl, ?_⟩
            exact ⟨rfl, (g4, u, _, ids, C), ⟨hu, hR⟩, ⟨rfl, rfl, rfl, trivial⟩, Ent.pick [4, 0] rfl, rfl⟩
        · refine ⟨rfl, fun g3 => ?_⟩
          refine ⟨[], _, Name15_ok _ 1 1, ?_⟩
          rintro _ _ ⟨rfl, rfl⟩
          refine ⟨rfl, fun g1 => ?_⟩
          refine ⟨[], _, aw_make1 ((hG.rh _).rh _) (aw_refs 3 rfl) (aw_blk 2 1 rfl rfl), ?_⟩
          rintro _ _ ⟨u, Rf, ids, C, rfl, rfl, hu, hR⟩
          have hR' := hR
          obtain ⟨_, Ar, cr, rfl, _⟩ := hR'
          refine ⟨rfl, rfl, 0, rfl, rfl, Nat.le_of_ble_eq_true rfl, ?_⟩
          exact ⟨rfl, (g4, u, _, ids, C), ⟨hu, hR⟩, ⟨rfl, rfl, rfl, trivial⟩, Ent.pick [4, 0] rfl, rfl⟩
  rintro ⟨g, u, Rf, ids, C⟩ ⟨hu, hR⟩ js
  have hu' := hu
  obtain ⟨Au, cu, lu, rfl, _⟩ := hu'
  have hR' := hR
  obtain ⟨_, Ar, cr, rfl, _⟩ := hR'
  have hpl : (pcsE (rsE 1 1 awB 64)).length = 1 := by rw [pcsE_length, rsE_length]
  have hp1 : (pcsE (rsE 1 1 awB 64))[0]? = some (pcI (rsE 1 1 awB 64) 0) := pcsE_get (by rw [rsE_length]; decide)
  have hfp : FitP (mkSt 1 1 64 awB) (pcI (rsE 1 1 awB 64) 0) := mk_fits (by decide) (by decide) (by decide) (by decide) (by decide) awB_blk (by decide)
  rw [hpl] at hu ⊢
  obtain ⟨a, D, S, rfl, hra, hD, hS⟩ := hu.at_ hp1
  have hv := hfp.2.2.2
  have hl : (pcI (rsE 1 1 awB 64) 0).dt.length = 64 := hfp.2.2.1
  generalize pcI (rsE 1 1 awB 64) 0 = p at hra hD hS hv hl
  repeat (first | (refine ⟨fun h => ?_, fun h => ?_⟩; rotate_left 1; (focus (exfalso; (first | (with_reducible (cases h; done)) | (revert h; simp; done) | (revert h; simp; omega) | (revert h; simp [*]; done)))); clear h) | (refine ⟨fun h => ?_, fun h => ?_⟩; (focus (exfalso; (first | (with_reducible (cases h; done)) | (revert h; simp; done) | (revert h; simp; omega) | (revert h; simp [*]; done)))); clear h))
  refine ⟨by decide, by decide, a, rfl, ?_⟩
  refine ⟨_, fun j u h => ro_rh 0 rfl _ _ (rdn (i := 0) hra j u h), rfl, ?_⟩
  refine ⟨[], _, NewSender_ok _ (hG.rh _) p D S (hD.mono (ro_rh 0 rfl)) (hS.mono (ro_rh 0 rfl)), ?_⟩
  rintro _ _ (⟨hno, _⟩ | ⟨_, g2, rfl, CA, cc, DA, cd, hg1, hc1, hg2, hc2, rfl⟩)
  · exact absurd hv hno
  repeat (first | (refine ⟨fun h => ?_, fun h => ?_⟩; rotate_left 1; (focus (exfalso; (first | (with_reducible (cases h; done)) | (revert h; simp; done) | (revert h; simp; omega) | (revert h; simp [*]; done)))); clear h) | (refine ⟨fun h => ?_, fun h => ?_⟩; (focus (exfalso; (first | (with_reducible (cases h; done)) | (revert h; simp; done) | (revert h; simp; omega) | (revert h; simp [*]; done)))); clear h))
  refine ⟨[], _, SParts_ok _ (by omega) (sd_own 2 3 4 hg1 hc1 hg2 hc2 rfl rfl rfl), ?_⟩
  rw [hl]
  rintro _ _ ⟨rfl, rfl⟩
  repeat (first | (refine ⟨fun h => ?_, fun h => ?_⟩; rotate_left 1; (focus (exfalso; (first | (with_reducible (cases h; done)) | (revert h; simp; done) | (revert h; simp; omega) | (revert h; simp [*]; done)))); clear h) | (refine ⟨fun h => ?_, fun h => ?_⟩; (focus (exfalso; (first | (with_reducible (cases h; done)) | (revert h; simp; done) | (revert h; simp; omega) | (revert h; simp [*]; done)))); clear h))
  exact ⟨_, Ent.nil _, rfl, rfl⟩

end Go.Proofs.YtgnmbgbiajgpeaaDoor
