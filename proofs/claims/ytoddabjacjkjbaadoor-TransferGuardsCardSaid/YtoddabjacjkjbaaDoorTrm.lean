/-
  Transfer: the contract of awake.
-/
import Derived.Test.YtoddabjacjkjbaaDoorTrl
namespace Go.Proofs.YtoddabjacjkjbaaDoor
open Go Go.RowKit
set_option linter.unusedVariables false

set_option maxRecDepth 100000 in
set_option maxHeartbeats 16000000 in
theorem awake42_core (R : Rd) (hG : ShaG R) {dt r : Str} (hx : Ex dt r) (hb : ∀ R, Fn Tryd.prog 38 [.int .i64 600, .int .u8 3] [] R (OwnBl · dt ·)) :
    Fn Tryd.prog 36 [] [] R (fun v h => v = .bool true ∧ h = []) := by
  have hlen := hx.len
  have hv := exP_valid hx
  have hsl : (exP dt).sums.length = 3 := pcS_length dt 1 3
  have hdl : (exP dt).dt.length ≤ 1000000 := by rw [exP_dt]; omega
  have hp2 := ex_parts hx
  have hBd : (exBp dt).dt.length ≤ 512 := part_dt_le _ _
  have hAd : (exA dt).dt.length ≤ 512 := part_dt_le _ _
  have hAp : (exA dt).path.length ≤ 600 := by have := part_path_le (exP dt) 0; rw [exP_dt, hlen] at this; exact this
  have hBp : (exBp dt).path.length ≤ 600 := by have := part_path_le (exP dt) 1; rw [exP_dt, hlen] at this; exact this
  refine fn_of_vc mixed tabOk Tryd.func36 rfl (by kernel_rfl) (Nat.le_of_ble_eq_true rfl) ?_
  refine ⟨[], _, hb _, ?_⟩
  rintro _ _ ⟨A0, cap0, rfl, rfl, hg0, hc0⟩
  refine ⟨[], _, piece_ok _ dt 1 3 _ (by omega) (by omega) (bs_own 0 rfl hg0 hc0), ?_⟩
  rintro _ _ ⟨S0, cs0, rfl, rfl, hgs0, hcs0⟩
  refine ⟨[], _, example_ok _ (hG.rh _) (exP dt) _ _ hv (bs_own 0 rfl hg0 hc0) (ss_own 1 rfl hgs0 hcs0), ?_⟩
  rw [hp2, show List.replicate 2 (.none : Slot) = exS0 from rfl]
  rintro _ _ ⟨gs, gr, _, _, rfl, rfl, ⟨SC, scc, SD, scd, hsg1, hsc1, hsg2, hsc2, rfl⟩, C, cc, gd, gp, sl, hgC, hcc, ok, hpl, rfl⟩
  repeat (first | (refine ⟨fun h => ?_, fun h => ?_⟩; rotate_left 1; (focus (exfalso; (first | (with_reducible (cases h; done)) | (revert h; simp; done) | (revert h; simp; omega) | (revert h; simp [*]; done)))); clear h) | (refine ⟨fun h => ?_, fun h => ?_⟩; (focus (exfalso; (first | (with_reducible (cases h; done)) | (revert h; simp; done) | (revert h; simp; omega) | (revert h; simp [*]; done)))); clear h))
  refine ⟨[], _, SParts_ok _ hdl (sd_own 2 3 4 hsg1 hsc1 hsg2 hsc2 rfl rfl rfl), ?_⟩
  rw [hp2]
  rintro _ _ ⟨rfl, rfl⟩
  repeat (first | (refine ⟨fun h => ?_, fun h => ?_⟩; rotate_left 1; (focus (exfalso; (first | (with_reducible (cases h; done)) | (revert h; simp; done) | (revert h; simp; omega) | (revert h; simp [*]; done)))); clear h) | (refine ⟨fun h => ?_, fun h => ?_⟩; (focus (exfalso; (first | (with_reducible (cases h; done)) | (revert h; simp; done) | (revert h; simp; omega) | (revert h; simp [*]; done)))); clear h))
  refine ⟨[], _, SPart_ok _ (hG.rh _) hdl 0 (by omega) (by omega) (sd_own 2 3 4 hsg1 hsc1 hsg2 hsc2 rfl rfl rfl), ?_⟩
  rw [show Int.toNat 0 / 512 = 0 from rfl, show partAt (exP dt) 0 = exA dt from rfl]
  rintro _ _ (⟨hno, _⟩ | ⟨_, AD, acd, AP, acp, rfl, rfl, hgAD, hcAD, hgAP, hcAP⟩)
  · rw [show thereB (exP dt).dt.length 0 = true from part_there (p := exP dt) (i := 0) (by omega)] at hno; cases hno
  intro g3
  refine ⟨rfl, rfl, 12, rfl, rfl, Nat.le_of_ble_eq_true rfl, ?_⟩
  refine ⟨[], _, SPart_ok _ (hG.rh _) hdl 512 (by omega) (by omega) (sd_own 2 3 4 hsg1 hsc1 hsg2 hsc2 rfl rfl rfl), ?_⟩
  rw [show Int.toNat 512 / 512 = 1 from rfl, show partAt (exP dt) 1 = exBp dt from rfl]
  rintro _ _ (⟨hno, _⟩ | ⟨_, BD, bcd, BP, bcp, rfl, rfl, hgBD, hcBD, hgBP, hcBP⟩)
  · rw [show thereB (exP dt).dt.length 512 = true from part_there (p := exP dt) (i := 1) (by omega)] at hno; cases hno
  intro g5
  refine ⟨rfl, rfl, 15, rfl, rfl, Nat.le_of_ble_eq_true rfl, ?_⟩
  repeat (first | (refine ⟨fun h => ?_, fun h => ?_⟩; rotate_left 1; (focus (exfalso; (first | (with_reducible (cases h; done)) | (revert h; simp; done) | (revert h; simp; omega) | (revert h; simp [*]; done)))); clear h) | (refine ⟨fun h => ?_, fun h => ?_⟩; (focus (exfalso; (first | (with_reducible (cases h; done)) | (revert h; simp; done) | (revert h; simp; omega) | (revert h; simp [*]; done)))); clear h))
  refine ⟨_, rdOff (o := 0) (n := 5) 15 rfl rfl, rfl, ?_⟩
  repeat (first | (refine ⟨fun h => ?_, fun h => ?_⟩; rotate_left 1; (focus (exfalso; (first | (with_reducible (cases h; done)) | (revert h; simp; done) | (revert h; simp; omega) | (revert h; simp [*]; done)))); clear h) | (refine ⟨fun h => ?_, fun h => ?_⟩; (focus (exfalso; (first | (with_reducible (cases h; done)) | (revert h; simp; done) | (revert h; simp; omega) | (revert h; simp [*]; done)))); clear h))
  refine ⟨[5, 5, 5, 5, 5], _, Receive_ok _ (hG.rh _) (exBp dt) _ _ ⟨C, cc, gd, gp, sl, hgC, hcc, ok, hpl, rfl⟩ (good0 hx) (by show _ ≤ (512 : Int); omega) (by show (512 : Int) ≤ _; omega) (by omega) (by omega) (bs_own 8 rfl hgBD hcBD) (ss_own 9 rfl hgBP hcBP), ?_⟩
  clear hgC hcc ok hpl
  rw [(ex1 hx).1, (ex1 hx).2]
  rintro _ _ ⟨rfl, C, cc, gd, gp, sl, hgC, hcc, ok, hpl, rfl⟩
  repeat (first | (refine ⟨fun h => ?_, fun h => ?_⟩; rotate_left 1; (focus (exfalso; (first | (with_reducible (cases h; done)) | (revert h; simp; done) | (revert h; simp; omega) | (revert h; simp [*]; done)))); clear h) | (refine ⟨fun h => ?_, fun h => ?_⟩; (focus (exfalso; (first | (with_reducible (cases h; done)) | (revert h; simp; done) | (revert h; simp; omega) | (revert h; simp [*]; done)))); clear h))
  refine ⟨_, rdOff (o := 0) (n := 5) 10 rfl rfl, rfl, ?_⟩
  repeat (first | (refine ⟨fun h => ?_, fun h => ?_⟩; rotate_left 1; (focus (exfalso; (first | (with_reducible (cases h; done)) | (revert h; simp; done) | (revert h; simp; omega) | (revert h; simp [*]; done)))); clear h) | (refine ⟨fun h => ?_, fun h => ?_⟩; (focus (exfalso; (first | (with_reducible (cases h; done)) | (revert h; simp; done) | (revert h; simp; omega) | (revert h; simp [*]; done)))); clear h))
  refine ⟨[11, 11, 11, 11, 11], _, Receive_ok _ (hG.rh _) (exBp dt) _ _ ⟨C, cc, gd, gp, sl, hgC, hcc, ok, hpl, rfl⟩ (good1 hx) (by show _ ≤ (512 : Int); omega) (by show (512 : Int) ≤ _; omega) (by omega) (by omega) (bs_own 8 rfl hgBD hcBD) (ss_own 9 rfl hgBP hcBP), ?_⟩
  clear hgC hcc ok hpl
  rw [(ex2 hx).1, (ex2 hx).2]
  rintro _ _ ⟨rfl, C, cc, gd, gp, sl, hgC, hcc, ok, hpl, rfl⟩
  repeat (first | (refine ⟨fun h => ?_, fun h => ?_⟩; rotate_left 1; (focus (exfalso; (first | (with_reducible (cases h; done)) | (revert h; simp; done) | (revert h; simp; omega) | (revert h; simp [*]; done)))); clear h) | (refine ⟨fun h => ?_, fun h => ?_⟩; (focus (exfalso; (first | (with_reducible (cases h; done)) | (revert h; simp; done) | (revert h; simp; omega) | (revert h; simp [*]; done)))); clear h))
  have hl2 : sl.length = 2 := by have := congrArg List.length hpl; rw [List.length_map] at this; exact this
  refine ⟨[], _, Missing_ok42 _ (by omega) (rc_own 11 12 13 14 15 hgC hcc ok rfl rfl rfl rfl rfl), ?_⟩
  rw [hpl, ex_miss1]
  rintro _ _ ⟨MA, mcap, rfl, rfl, hgM⟩
  repeat (first | (refine ⟨fun h => ?_, fun h => ?_⟩; rotate_left 1; (focus (exfalso; (first | (with_reducible (cases h; done)) | (revert h; simp; done) | (revert h; simp; omega) | (revert h; simp [*]; done)))); clear h) | (refine ⟨fun h => ?_, fun h => ?_⟩; (focus (exfalso; (first | (with_reducible (cases h; done)) | (revert h; simp; done) | (revert h; simp; omega) | (revert h; simp [*]; done)))); clear h))
  refine ⟨rfl, fun gz => ?_⟩
  repeat (first | (refine ⟨fun h => ?_, fun h => ?_⟩; rotate_left 1; (focus (exfalso; (first | (with_reducible (cases h; done)) | (revert h; simp; done) | (revert h; simp; omega) | (revert h; simp [*]; done)))); clear h) | (refine ⟨fun h => ?_, fun h => ?_⟩; (focus (exfalso; (first | (with_reducible (cases h; done)) | (revert h; simp; done) | (revert h; simp; omega) | (revert h; simp [*]; done)))); clear h))
  refine ⟨[], _, Ints_ok _ [0] [0] _ _ (by decide) (SlR.own 16 rfl rfl hgM) (SlR.own 17 rfl rfl (.inr ⟨gz, rfl⟩)), ?_⟩
  rintro _ _ ⟨rfl, rfl⟩
  rw [decide_eq_true rfl]
  repeat (first | (refine ⟨fun h => ?_, fun h => ?_⟩; rotate_left 1; (focus (exfalso; (first | (with_reducible (cases h; done)) | (revert h; simp; done) | (revert h; simp; omega) | (revert h; simp [*]; done)))); clear h) | (refine ⟨fun h => ?_, fun h => ?_⟩; (focus (exfalso; (first | (with_reducible (cases h; done)) | (revert h; simp; done) | (revert h; simp; omega) | (revert h; simp [*]; done)))); clear h))
  refine ⟨[], _, Have_ok42 _ (by omega) (by rw [hpl, ex_have1 hx]; omega) (rc_own 11 12 13 14 15 hgC hcc ok rfl rfl rfl rfl rfl), ?_⟩
  rw [hpl, ex_have1 hx]
  rintro _ _ ⟨rfl, rfl⟩
  repeat (first | (refine ⟨fun h => ?_, fun h => ?_⟩; rotate_left 1; (focus (exfalso; (first | (with_reducible (cases h; done)) | (revert h; simp; done) | (revert h; simp; omega) | (revert h; simp [*]; done)))); clear h) | (refine ⟨fun h => ?_, fun h => ?_⟩; (focus (exfalso; (first | (with_reducible (cases h; done)) | (revert h; simp; done) | (revert h; simp; omega) | (revert h; simp [*]; done)))); clear h))
  refine ⟨[], _, Piece_ok42 _ (by omega) (by show (exP dt).sums.length ≤ _; omega) (by rw [hpl, ex_have1 hx]; omega) (rc_own 11 12 13 14 15 hgC hcc ok rfl rfl rfl rfl rfl), ?_⟩
  rintro _ _ (⟨_, rfl, rfl⟩ | ⟨hno, _⟩)
  case inr => rw [hpl, ex_miss1] at hno; cases hno
  intro g7
  refine ⟨rfl, rfl, 18, rfl, rfl, Nat.le_of_ble_eq_true rfl, ?_⟩
  refine ⟨_, rdOff (o := 0) (n := 5) 7 rfl rfl, rfl, ?_⟩
  intro g9
  refine ⟨rfl, rfl, 19, rfl, rfl, Nat.le_of_ble_eq_true rfl, ?_⟩
  have hA3 : (exA dt).dt = 3 :: r := by rw [exA_dt hx, hx.first]
  have hAl : (exA dt).dt.length = r.length + 1 := by rw [hA3, List.length_cons]
  have hbA : BsR (RH R [.blk g3 68 (ptC (exA dt) (.slice AD (exA dt).dt.length acd) (.slice AP (exA dt).path.length acp)), .row AD (exA dt).dt.length acd 5 1 (BV (exA dt).dt) (0, 0)]) (.slice AD (exA dt).dt.length acd) (exA dt).dt := SlR.own 1 rfl (by rw [BV_length, Nat.mul_one]) hgAD
  obtain ⟨a, haD, hr⟩ := hbA.one (i := 0) (by omega)
  have hg0 : (exA dt).dt.getD 0 0 = 3 := by rw [hA3]; rfl
  rw [hg0] at hr
  refine ⟨[7,5], (.q 0 (.q 1 (.q 2 (.q 3 (.q 4 (.q 6 (.q 7 (.q 8 (.one 5 (.one 9 (.q 10 (.fin 11)))))))))))), by kernel_rfl, ?_⟩
  refine ⟨_, ld 0 rfl rfl, ?_⟩
  refine ⟨by omega, by omega, a, haD, ?_⟩
  refine ⟨_, hr, ?_⟩
  intro z hz
  obtain rfl : z = 2 := by rw [hz]; rfl
  clear hz
  refine ⟨_, ld 0 rfl rfl, ?_⟩
  refine ⟨1, (exA dt).dt.length, rfl, rfl, by omega, hcAD, ?_⟩
  refine ⟨rfl, fun gq => ?_⟩
  have hdk := hbA.dropK (k := 1) (by omega) hcAD
  have hdr1 : (exA dt).dt.drop 1 = r := by rw [hA3]; rfl
  have hm : (exA dt).dt.length - 1 = r.length := by omega
  rw [hdr1, hm] at hdk
  rw [hm]
  have hML := maxLen_eq
  refine ⟨BV r, by rw [BV_length]; exact (Nat.mul_one _).symm, (hdk.rh _).src, BV_one _, by show (_ + _) * 1 ≤ _; omega, by omega, .inr ⟨18, rfl, rfl, rfl, rfl, rfl, rfl, fun A' cap' hg' => ?_⟩⟩
  rw [Nat.add_comm 1 r.length] at hg' ⊢
  refine ⟨rfl, rfl, 19, rfl, rfl, Nat.le_of_ble_eq_true rfl, ?_⟩
  refine ⟨ptC (exBad dt r) (.slice A' (r.length + 1) cap') (.slice AP (exA dt).path.length acp), rdOff (o := 0) (n := 5) 19 rfl rfl, rfl, ?_⟩
  have hRl := exR_length hx
  refine ⟨[11, 11, 11, 11, 11, 15], _, fn_row 5 rfl (callable Tryd.func25 rfl (by kernel_rfl)) fun hcap _ => Fn.frame (h := rcH gr (exP dt).hd C cc gd gp sl) (k := [_]) (Receive_ok _ ((hG.rh _).rh _) (exBad dt r) (.slice A' (r.length + 1) cap') (.slice AP (exA dt).path.length acp) ⟨C, cc, gd, gp, sl, hgC, hcc, ok, hpl, rfl⟩ (good1 hx) (by show _ ≤ (0 : Int); omega) (by show (0 : Int) ≤ _; omega)
    (by show (2 :: r : Str).length ≤ _; omega) (by show (exA dt).path.length ≤ _; omega) (bs_own (l := 2 :: r) 0 rfl hg' hcap) ((ss_own 7 rfl hgAP hcAP).rh _)), ?_⟩
  clear hgC hcc ok hpl hl2
  rw [(ex3 hx).1, (ex3 hx).2]
  rintro _ _ ⟨_, rfl, rfl, C, cc, gd, gp, sl, hgC, hcc, ok, hpl, rfl⟩
  refine ⟨ptC (exA dt) (.slice AD (exA dt).dt.length acd) (.slice AP (exA dt).path.length acp), rdOff (o := 0) (n := 5) 0 rfl rfl, rfl, ?_⟩
  refine ⟨[16, 16, 16, 16, 16], _, Receive_ok _ (hG.rh _) (exA dt) _ _ ⟨C, cc, gd, gp, sl, hgC, hcc, ok, hpl, rfl⟩ (good1 hx) (by show _ ≤ (0 : Int); omega) (by show (0 : Int) ≤ _; omega) (by omega) (by omega) (bs_own 1 rfl hgAD hcAD) (ss_own 7 rfl hgAP hcAP), ?_⟩
  clear hgC hcc ok hpl
  rw [(ex4 hx).1, (ex4 hx).2]
  rintro _ _ ⟨rfl, C, cc, gd, gp, sl, hgC, hcc, ok, hpl, rfl⟩
  have hl2 : sl.length = 2 := by have := congrArg List.length hpl; rw [List.length_map] at this; exact this
  refine ⟨[], _, Piece_ok42 _ (by omega) (by show (exP dt).sums.length ≤ _; omega) (by rw [hpl, ex_have2 hx]; omega) (rc_own 16 17 18 19 20 hgC hcc ok rfl rfl rfl rfl rfl), ?_⟩
  rw [hpl, ex_have2 hx]
  rintro _ _ (⟨hno, _⟩ | ⟨_, PA, pca, PB, pcb, rfl, rfl, hgPA, hcPA, hgPB, hcPB⟩)
  · exact absurd (ex_miss2 dt) hno
  intro g12
  refine ⟨rfl, rfl, 23, rfl, rfl, Nat.le_of_ble_eq_true rfl, ?_⟩
  refine ⟨[23], (.q 0 (.q 1 (.q 2 (.q 3 (.q 4 (.q 5 (.q 6 (.q 7 (.q 8 (.q 9 (.q 10 (.q 11 (.q 12 (.q 13 (.q 14 (.q 15 (.one 16 (.one 17 (.one 18 (.q 19 (.q 20 .nil))))))))))))))))))))), by kernel_rfl, ?_⟩
  repeat (first | (refine ⟨fun h => ?_, fun h => ?_⟩; rotate_left 1; (focus (exfalso; (first | (with_reducible (cases h; done)) | (revert h; simp; done) | (revert h; simp; omega) | (revert h; simp [*]; done)))); clear h) | (refine ⟨fun h => ?_, fun h => ?_⟩; (focus (exfalso; (first | (with_reducible (cases h; done)) | (revert h; simp; done) | (revert h; simp; omega) | (revert h; simp [*]; done)))); clear h))
  refine ⟨pcC (exP dt) (.slice PA dt.length pca) (.slice PB (exP dt).sums.length pcb), rdOff (o := 0) (n := 4) 0 rfl rfl, rfl, ?_⟩
  repeat (first | (refine ⟨fun h => ?_, fun h => ?_⟩; rotate_left 1; (focus (exfalso; (first | (with_reducible (cases h; done)) | (revert h; simp; done) | (revert h; simp; omega) | (revert h; simp [*]; done)))); clear h) | (refine ⟨fun h => ?_, fun h => ?_⟩; (focus (exfalso; (first | (with_reducible (cases h; done)) | (revert h; simp; done) | (revert h; simp; omega) | (revert h; simp [*]; done)))); clear h))
  refine ⟨[], _, hb _, ?_⟩
  rintro _ _ ⟨A1, cap1, rfl, rfl, hg1, hc1⟩
  repeat (first | (refine ⟨fun h => ?_, fun h => ?_⟩; rotate_left 1; (focus (exfalso; (first | (with_reducible (cases h; done)) | (revert h; simp; done) | (revert h; simp; omega) | (revert h; simp [*]; done)))); clear h) | (refine ⟨fun h => ?_, fun h => ?_⟩; (focus (exfalso; (first | (with_reducible (cases h; done)) | (revert h; simp; done) | (revert h; simp; omega) | (revert h; simp [*]; done)))); clear h))
  refine ⟨[], _, piece_ok _ dt 1 3 _ (by omega) (by omega) (bs_own 23 rfl hg1 hc1), ?_⟩
  rintro _ _ ⟨S1, cs1, rfl, rfl, hgs1, hcs1⟩
  repeat (first | (refine ⟨fun h => ?_, fun h => ?_⟩; rotate_left 1; (focus (exfalso; (first | (with_reducible (cases h; done)) | (revert h; simp; done) | (revert h; simp; omega) | (revert h; simp [*]; done)))); clear h) | (refine ⟨fun h => ?_, fun h => ?_⟩; (focus (exfalso; (first | (with_reducible (cases h; done)) | (revert h; simp; done) | (revert h; simp; omega) | (revert h; simp [*]; done)))); clear h))
  refine ⟨[], _, same42_ok _ (exP dt) (exP dt) _ _ _ _ (by omega) (bs_own 21 rfl hgPA hcPA) (ss_own 22 rfl hgPB hcPB) (bs_own 23 rfl hg1 hc1) (ss_own 24 rfl hgs1 hcs1), ?_⟩
  rintro _ _ ⟨rfl, rfl⟩
  rw [decide_eq_true (show eqPc (exP dt) (exP dt) from ⟨⟨rfl, rfl⟩, rfl, rfl⟩)]
  repeat (first | (refine ⟨fun h => ?_, fun h => ?_⟩; rotate_left 1; (focus (exfalso; (first | (with_reducible (cases h; done)) | (revert h; simp; done) | (revert h; simp; omega) | (revert h; simp [*]; done)))); clear h) | (refine ⟨fun h => ?_, fun h => ?_⟩; (focus (exfalso; (first | (with_reducible (cases h; done)) | (revert h; simp; done) | (revert h; simp; omega) | (revert h; simp [*]; done)))); clear h))
  exact ⟨_, Ent.nil _, rfl, rfl⟩
theorem awake42_ok (R : Rd) (hG : ShaG R) : Fn Tryd.prog 36 [] [] R (fun v h => v = .bool true ∧ h = []) :=
  awake42_core R hG ex_inst fun R => bytes_ok R 600 3 (by omega)

end Go.Proofs.YtoddabjacjkjbaaDoor
