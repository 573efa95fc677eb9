/-
  Transfer: the law TransferOrder.
-/
import Derived.Test.YtnifppnpplgghaaGreatDoorTsa
import Derived.Test.YtnifppnpplgghaaGreatDoorTrx
namespace Go.Proofs.YtnifppnpplgghaaGreatDoor
open Go Go.RowKit
set_option linter.unusedVariables false
set_option linter.unusedSimpArgs false

theorem part_wf {p : Pc} (w : VPc p) {i : Nat} (hi : i < partsN p.dt.length) : WfP (partAt p i) :=
  see_wf (h := p.hd) w.wf (x := ((partAt p i).dt, (partAt p i).path)) (part_see w hi)
theorem two_ok {p : Pc} (w : VPc p) {i j : Nat} (hi : i < partsN p.dt.length) (hj : j < partsN p.dt.length) :
    OkR (encR p.hd [partAt p i, partAt p j]) ∧ hR (encR p.hd [partAt p i, partAt p j]) = p.hd ∧ psR (encR p.hd [partAt p i, partAt p j]) (qC (encR p.hd [partAt p i, partAt p j])) = [partAt p i, partAt p j] ∧ (encR p.hd [partAt p i, partAt p j]).length ≤ 200000 := by
  have wp : ∀ q ∈ [partAt p i, partAt p j], WfP q := fun q hq => by
    simp only [List.mem_cons, List.not_mem_nil, or_false] at hq
    rcases hq with rfl | rfl
    · exact part_wf w hi
    · exact part_wf w hj
  obtain ⟨h1, h2, h3, h4⟩ := okR_of w.wf wp (by show 2 ≤ 1000; omega)
  refine ⟨h1, h2, h4, ?_⟩
  have b1 := encH_le w.wf
  have b2 := bodyP_le wp
  have b3 := num_le10 (n := (encH p.hd).length) (by omega)
  have b4 := num_le10 (n := [partAt p i, partAt p j].length) (by show 2 ≤ _; omega)
  have b5 : [partAt p i, partAt p j].length = 2 := rfl
  unfold encR
  simp only [List.length_append]; omega
theorem get_new {n j : Nat} : (List.replicate n (.none : Slot)).getD j .none = .none := by
  rw [List.getD_eq_getElem?_getD, List.getElem?_replicate]; split <;> rfl
theorem two_res {p : Pc} (w : VPc p) {i j : Nat} (hi : i < partsN p.dt.length) (hj : j < partsN p.dt.length) :
    (i = j → resL p.hd [partAt p i, partAt p j] = (5, [])) ∧ (j < i → resL p.hd [partAt p i, partAt p j] = (3, [])) ∧ (i < j → (resL p.hd [partAt p i, partAt p j]).1 = 0) := by
  have e1 := honest w hi (get_new (n := partsN p.dt.length) (j := i))
  have s1 := honest_set w hi (get_new (n := partsN p.dt.length) (j := i))
  refine ⟨fun h => ?_, fun h => ?_, fun h => ?_⟩
  · subst h
    have e2 : recvE p.hd (recvS p.hd (List.replicate (partsN p.dt.length) .none) (partAt p i)) (partAt p i) = 5 := by
      rw [s1]
      exact honest_again hi (by rw [getD_set (by rw [List.length_replicate]; exact hi), if_pos rfl])
    refine res_err w.root (e := 5) (s := recvS p.hd (List.replicate (partsN p.dt.length) .none) (partAt p i)) ?_ (by decide)
    show recAll p.hd (List.replicate (partsN p.dt.length) .none) _ = _
    rw [recAll_yes e1, recAll_no (by rw [e2]; decide), e2]
  all_goals
    have e2 : recvE p.hd (recvS p.hd (List.replicate (partsN p.dt.length) .none) (partAt p i)) (partAt p j) = 0 := by
      rw [s1]
      exact honest w hj (by rw [getD_set (by rw [List.length_replicate]; exact hi), if_neg (by omega)]; exact get_new)
    have hA : recAll p.hd (List.replicate (partsN p.dt.length) .none) [partAt p i, partAt p j] = (0, recvS p.hd (recvS p.hd (List.replicate (partsN p.dt.length) .none) (partAt p i)) (partAt p j)) := by
      rw [recAll_yes e1, recAll_yes e2]; rfl
    have hr := res_asc (h := p.hd) (ps := [partAt p i, partAt p j]) w.root hA
    have ha : asc [partAt p i, partAt p j] = decide (((i * 512 : Nat) : Int) < ((j * 512 : Nat) : Int)) := by
      show (decide (((i * 512 : Nat) : Int) < ((j * 512 : Nat) : Int)) && true) = _
      rw [Bool.and_true]
    rw [hr, ha]
  · rw [decide_eq_false (by omega)]; rfl
  · rw [decide_eq_true (by omega)]; rfl

set_option maxRecDepth 100000 in
set_option maxHeartbeats 16000000 in
theorem TransferOrder_law (R : Rd) (hG : ShaG R) (v0 v1 v2 v3 : Value) (s0 : SeenV R (.int .u16) v0) (s1 : SeenV R (.int .u8) v1) (s2 : SeenV R (.int .u8) v2) (s3 : SeenV R (.int .u8) v3) :
    Fn Tryz.prog 9 [v0, v1, v2, v3] [] R (fun v _ => v = .bool true) := by
  have hML := maxLen_eq
  obtain ⟨t, rfl, ht⟩ := s0.u16
  obtain ⟨x, rfl⟩ := s1.u8
  obtain ⟨a, rfl⟩ := s2.u8
  obtain ⟨b, rfl⟩ := s3.u8
  have ha8 : a.toNat < 256 := UInt8.toNat_lt _
  have hb8 : b.toNat < 256 := UInt8.toNat_lt _
  generalize a.toNat = an at ha8
  generalize b.toNat = bn at hb8
  refine fn_of_vc mixed tabOk Tryz.func9 rfl (by kernel_rfl) (Nat.le_of_ble_eq_true rfl) ?_
  (intro z hz; obtain rfl : z = ((t : Nat) : Int) := (by first | (rw [IntKind.wrap_i64] at hz; omega) | (rw [IntKind.wrap_u64] at hz; omega) | omega); clear hz)
  refine ⟨by decide, ?_⟩
  intro z hz
  obtain rfl := rem_nat (a := t) (b := 2600) rfl hz
  clear hz
  (intro z hz; obtain rfl : z = ((1 + t % 2600 : Nat) : Int) := (by first | (rw [IntKind.wrap_i64] at hz; omega) | (rw [IntKind.wrap_u64] at hz; omega) | omega); clear hz)
  refine ⟨[], _, bytes_ok _ (1 + t % 2600) x (by omega), ?_⟩
  have hbl := bytesL_length (1 + t % 2600) x
  generalize bytesL (1 + t % 2600) x = dt at hbl
  rintro _ _ ⟨A0, cap0, rfl, rfl, hg0, hc0⟩
  refine ⟨[], _, piece_ok _ dt 0 2 _ (by omega) (by omega) (bs_own 0 rfl hg0 hc0), ?_⟩
  have hv : VPc (pieceP dt 0 2) := piece_valid (by omega) (by omega) (by omega) (by omega) (by omega) (by omega)
  have hsl := pcS_length dt 0 2
  rintro _ _ ⟨S0, cs0, rfl, rfl, hgs0, hcs0⟩
  obtain ⟨p, hp⟩ : ∃ p, p = pieceP dt 0 2 := ⟨_, rfl⟩
  have hpd : p.dt = dt := by rw [hp]; rfl
  have hps : p.sums = pcS dt 0 2 := by rw [hp]; rfl
  rw [← hps] at hsl hgs0 hcs0 ⊢
  rw [← hp] at hv ⊢
  rw [← hpd] at hg0 hc0 hbl ⊢
  clear hp hps hpd
  have hdl6 : p.dt.length ≤ 1000000 := by omega
  intro g9
  refine ⟨rfl, rfl, 2, rfl, rfl, Nat.le_of_ble_eq_true rfl, ?_⟩
  refine ⟨_, ld 2 rfl rfl, ?_⟩
  refine ⟨[], _, rParts_ok _ p.dt.length (by omega), ?_⟩
  rintro _ _ ⟨rfl, rfl⟩
  have hp6 : partsN p.dt.length ≤ 6 ∧ 1 ≤ partsN p.dt.length := by unfold partsN; omega
  have hja : an % partsN p.dt.length < partsN p.dt.length := Nat.mod_lt _ (by omega)
  have hjb : bn % partsN p.dt.length < partsN p.dt.length := Nat.mod_lt _ (by omega)
  obtain ⟨ja, hja2⟩ : ∃ ja, ja = an % partsN p.dt.length := ⟨_, rfl⟩
  obtain ⟨jb, hjb2⟩ : ∃ jb, jb = bn % partsN p.dt.length := ⟨_, rfl⟩
  rw [← hja2] at hja
  rw [← hjb2] at hjb
  have htha : thereB p.dt.length ((ja * 512 : Nat) : Int) = true := part_there (p := p) hja
  have hthb : thereB p.dt.length ((jb * 512 : Nat) : Int) = true := part_there (p := p) hjb
  have hoa : ((ja * 512 : Nat) : Int).toNat / 512 = ja := part_off p ja
  have hob : ((jb * 512 : Nat) : Int).toNat / 512 = jb := part_off p jb
  refine ⟨[0,0,0], .cut (.q 0 (.q 1 (.q 2 (.q 3 (.q 4 (.q 5 (.q 7 (.q 8 (.q 9 (.q 10 (.q 11 (.q 12 (.three 6 (.three 13 (.two 14 (.one 15 (.one 16 (.one 17 .nil))) 15 (.one 14 (.one 16 (.one 17 .nil)))) 14 (.two 13 (.one 15 (.one 16 (.one 17 .nil))) 15 (.one 13 (.one 16 (.one 17 .nil)))) 15 (.two 13 (.one 14 (.one 16 (.one 17 .nil))) 14 (.one 13 (.one 16 (.one 17 .nil))))) 14 (.two 6 (.two 13 (.one 15 (.one 16 (.one 17 .nil))) 15 (.one 13 (.one 16 (.one 17 .nil)))) 15 (.one 6 (.one 13 (.one 16 (.one 17 .nil))))) 15 (.two 6 (.two 13 (.one 14 (.one 16 (.one 17 .nil))) 14 (.one 13 (.one 16 (.one 17 .nil)))) 14 (.one 6 (.one 13 (.one 16 (.one 17 .nil)))))))))))))))))), by kernel_rfl, [none, none, none, none, none, none, none, none, none, none, none, some 11, some 12, none, none, none, none, none, none, none, none, none, none, none, none, none, none, some 27, some 28, some 29, some 30, some 31, some 32, some 33, some 34, some 35, some 36, some 37, some 38, some 39, some 40], ?_⟩
  refine ⟨[11, 12], Nat × Nat × (Option Addr × Nat × Option Addr × Nat) × (Option Addr × Nat × Option Addr × Nat), fun ⟨g11, g12, (A1, c1, B1, d1), (A2, c2, B2, d2)⟩ => grow (partAt p ja).dt.length A1 ∧ (partAt p ja).dt.length ≤ c1 ∧ grow (partAt p ja).path.length B1 ∧ (partAt p ja).path.length ≤ d1 ∧ grow (partAt p jb).dt.length A2 ∧ (partAt p jb).dt.length ≤ c2 ∧ grow (partAt p jb).path.length B2 ∧ (partAt p jb).path.length ≤ d2,
    fun ⟨g11, g12, _, _⟩ => [.pointer (some ⟨g11, 0, .none⟩), .pointer (some ⟨g12, 0, .none⟩)],
    fun ⟨g11, g12, (A1, c1, B1, d1), (A2, c2, B2, d2)⟩ => [.blk g11 44 (ptC (partAt p ja) (.slice A1 (partAt p ja).dt.length c1) (.slice B1 (partAt p ja).path.length d1)), .row A1 (partAt p ja).dt.length c1 5 1 (BV (partAt p ja).dt) (0, 0), .row B1 (partAt p ja).path.length d1 9 1 (SV (partAt p ja).path) (0, 0),
      .blk g12 44 (ptC (partAt p jb) (.slice A2 (partAt p jb).dt.length c2) (.slice B2 (partAt p jb).path.length d2)), .row A2 (partAt p jb).dt.length c2 5 1 (BV (partAt p jb).dt) (0, 0), .row B2 (partAt p jb).path.length d2 9 1 (SV (partAt p jb).path) (0, 0)], ?_, ?_⟩
  · refine ⟨_, rdOff (o := 0) (n := 4) 2 rfl rfl, rfl, ?_⟩
    (intro z hz; obtain rfl : z = ((an : Nat) : Int) := (by first | (rw [IntKind.wrap_i64] at hz; omega) | (rw [IntKind.wrap_u64] at hz; omega) | omega); clear hz)
    refine ⟨by omega, ?_⟩
    intro z hz
    obtain rfl : z = ((ja : Nat) : Int) := by rw [hja2]; exact rem_nat (a := an) (b := partsN p.dt.length) rfl hz
    clear hz
    intro z hz
    obtain rfl := mul_nat (a := ja) (b := 512) (by omega) hz
    clear hz
    refine ⟨_, rdOff (o := 0) (n := 4) 2 rfl rfl, rfl, ?_⟩
    (intro z hz; obtain rfl : z = ((bn : Nat) : Int) := (by first | (rw [IntKind.wrap_i64] at hz; omega) | (rw [IntKind.wrap_u64] at hz; omega) | omega); clear hz)
    refine ⟨by omega, ?_⟩
    intro z hz
    obtain rfl : z = ((jb : Nat) : Int) := by rw [hjb2]; exact rem_nat (a := bn) (b := partsN p.dt.length) rfl hz
    clear hz
    intro z hz
    obtain rfl := mul_nat (a := jb) (b := 512) (by omega) hz
    clear hz
    refine ⟨?_, ?_, ?_⟩
    · skip
      refine ⟨[], _, rShow_ok _ p _ _ hdl6 ((ja * 512 : Nat) : Int) htha ((bs_own (R := R) 0 rfl hg0 hc0).rh _), ?_⟩
      rw [hoa]
      rintro _ _ ⟨A1, c1, B1, d1, rfl, rfl, hgA1, hcA1, hgB1, hcB1⟩
      refine ⟨?_, ?_, ?_⟩
      · skip
        refine ⟨[], _, rShow_ok _ p _ _ hdl6 ((jb * 512 : Nat) : Int) hthb ((bs_own (R := R) 0 rfl hg0 hc0).rh _), ?_⟩
        rw [hob]
        rintro _ _ ⟨A2, c2, B2, d2, rfl, rfl, hgA2, hcA2, hgB2, hcB2⟩
        refine ⟨?_, ?_⟩
        · skip
          intro g11
          intro g12
          refine ⟨rfl, rfl, 4, rfl, rfl, Nat.le_of_ble_eq_true rfl, ?_⟩
          refine ⟨rfl, rfl, 5, rfl, rfl, Nat.le_of_ble_eq_true rfl, ?_⟩
          exact ⟨rfl, (g11, g12, (A1, c1, B1, d1), (A2, c2, B2, d2)), ⟨hgA1, hcA1, hgB1, hcB1, hgA2, hcA2, hgB2, hcB2⟩, ⟨rfl, rfl, trivial⟩, Ent.pick [4, 0, 0, 2, 0, 0] rfl, rfl⟩
        · skip
          intro g12
          intro g11
          refine ⟨rfl, rfl, 5, rfl, rfl, Nat.le_of_ble_eq_true rfl, ?_⟩
          refine ⟨rfl, rfl, 4, rfl, rfl, Nat.le_of_ble_eq_true rfl, ?_⟩
          exact ⟨rfl, (g11, g12, (A1, c1, B1, d1), (A2, c2, B2, d2)), ⟨hgA1, hcA1, hgB1, hcB1, hgA2, hcA2, hgB2, hcB2⟩, ⟨rfl, rfl, trivial⟩, Ent.pick [5, 0, 0, 2, 0, 0] rfl, rfl⟩
      · skip
        intro g11
        refine ⟨?_, ?_⟩
        · skip
          refine ⟨[], _, rShow_ok _ p _ _ hdl6 ((jb * 512 : Nat) : Int) hthb ((bs_own (R := R) 0 rfl hg0 hc0).rh _), ?_⟩
          rw [hob]
          rintro _ _ ⟨A2, c2, B2, d2, rfl, rfl, hgA2, hcA2, hgB2, hcB2⟩
          intro g12
          refine ⟨rfl, rfl, 2, rfl, rfl, Nat.le_of_ble_eq_true rfl, ?_⟩
          refine ⟨rfl, rfl, 5, rfl, rfl, Nat.le_of_ble_eq_true rfl, ?_⟩
          exact ⟨rfl, (g11, g12, (A1, c1, B1, d1), (A2, c2, B2, d2)), ⟨hgA1, hcA1, hgB1, hcB1, hgA2, hcA2, hgB2, hcB2⟩, ⟨rfl, rfl, trivial⟩, Ent.pick [2, 0, 0, 2, 0, 0] rfl, rfl⟩
        · skip
          intro g12
          refine ⟨[], _, rShow_ok _ p _ _ hdl6 ((jb * 512 : Nat) : Int) hthb ((bs_own (R := R) 0 rfl hg0 hc0).rh _), ?_⟩
          rw [hob]
          rintro _ _ ⟨A2, c2, B2, d2, rfl, rfl, hgA2, hcA2, hgB2, hcB2⟩
          refine ⟨rfl, rfl, 2, rfl, rfl, Nat.le_of_ble_eq_true rfl, ?_⟩
          refine ⟨rfl, rfl, 3, rfl, rfl, Nat.le_of_ble_eq_true rfl, ?_⟩
          exact ⟨rfl, (g11, g12, (A1, c1, B1, d1), (A2, c2, B2, d2)), ⟨hgA1, hcA1, hgB1, hcB1, hgA2, hcA2, hgB2, hcB2⟩, ⟨rfl, rfl, trivial⟩, Ent.pick [2, 0, 0, 0, 0, 0] rfl, rfl⟩
      · skip
        intro g12
        refine ⟨?_, ?_⟩
        · skip
          refine ⟨[], _, rShow_ok _ p _ _ hdl6 ((jb * 512 : Nat) : Int) hthb ((bs_own (R := R) 0 rfl hg0 hc0).rh _), ?_⟩
          rw [hob]
          rintro _ _ ⟨A2, c2, B2, d2, rfl, rfl, hgA2, hcA2, hgB2, hcB2⟩
          intro g11
          refine ⟨rfl, rfl, 5, rfl, rfl, Nat.le_of_ble_eq_true rfl, ?_⟩
          refine ⟨rfl, rfl, 2, rfl, rfl, Nat.le_of_ble_eq_true rfl, ?_⟩
          exact ⟨rfl, (g11, g12, (A1, c1, B1, d1), (A2, c2, B2, d2)), ⟨hgA1, hcA1, hgB1, hcB1, hgA2, hcA2, hgB2, hcB2⟩, ⟨rfl, rfl, trivial⟩, Ent.pick [5, 0, 0, 0, 0, 0] rfl, rfl⟩
        · skip
          intro g11
          refine ⟨[], _, rShow_ok _ p _ _ hdl6 ((jb * 512 : Nat) : Int) hthb ((bs_own (R := R) 0 rfl hg0 hc0).rh _), ?_⟩
          rw [hob]
          rintro _ _ ⟨A2, c2, B2, d2, rfl, rfl, hgA2, hcA2, hgB2, hcB2⟩
          refine ⟨rfl, rfl, 3, rfl, rfl, Nat.le_of_ble_eq_true rfl, ?_⟩
          refine ⟨rfl, rfl, 2, rfl, rfl, Nat.le_of_ble_eq_true rfl, ?_⟩
          exact ⟨rfl, (g11, g12, (A1, c1, B1, d1), (A2, c2, B2, d2)), ⟨hgA1, hcA1, hgB1, hcB1, hgA2, hcA2, hgB2, hcB2⟩, ⟨rfl, rfl, trivial⟩, Ent.pick [3, 0, 0, 0, 0, 0] rfl, rfl⟩
    · skip
      intro g11
      refine ⟨?_, ?_⟩
      · skip
        refine ⟨[], _, rShow_ok _ p _ _ hdl6 ((ja * 512 : Nat) : Int) htha ((bs_own (R := R) 0 rfl hg0 hc0).rh _), ?_⟩
        rw [hoa]
        rintro _ _ ⟨A1, c1, B1, d1, rfl, rfl, hgA1, hcA1, hgB1, hcB1⟩
        refine ⟨?_, ?_⟩
        · skip
          refine ⟨[], _, rShow_ok _ p _ _ hdl6 ((jb * 512 : Nat) : Int) hthb ((bs_own (R := R) 0 rfl hg0 hc0).rh _), ?_⟩
          rw [hob]
          rintro _ _ ⟨A2, c2, B2, d2, rfl, rfl, hgA2, hcA2, hgB2, hcB2⟩
          intro g12
          refine ⟨rfl, rfl, 0, rfl, rfl, Nat.le_of_ble_eq_true rfl, ?_⟩
          refine ⟨rfl, rfl, 5, rfl, rfl, Nat.le_of_ble_eq_true rfl, ?_⟩
          exact ⟨rfl, (g11, g12, (A1, c1, B1, d1), (A2, c2, B2, d2)), ⟨hgA1, hcA1, hgB1, hcB1, hgA2, hcA2, hgB2, hcB2⟩, ⟨rfl, rfl, trivial⟩, Ent.pick [0, 0, 0, 2, 0, 0] rfl, rfl⟩
        · skip
          intro g12
          refine ⟨[], _, rShow_ok _ p _ _ hdl6 ((jb * 512 : Nat) : Int) hthb ((bs_own (R := R) 0 rfl hg0 hc0).rh _), ?_⟩
          rw [hob]
          rintro _ _ ⟨A2, c2, B2, d2, rfl, rfl, hgA2, hcA2, hgB2, hcB2⟩
          refine ⟨rfl, rfl, 0, rfl, rfl, Nat.le_of_ble_eq_true rfl, ?_⟩
          refine ⟨rfl, rfl, 3, rfl, rfl, Nat.le_of_ble_eq_true rfl, ?_⟩
          exact ⟨rfl, (g11, g12, (A1, c1, B1, d1), (A2, c2, B2, d2)), ⟨hgA1, hcA1, hgB1, hcB1, hgA2, hcA2, hgB2, hcB2⟩, ⟨rfl, rfl, trivial⟩, Ent.pick [0, 0, 0, 0, 0, 0] rfl, rfl⟩
      · skip
        intro g12
        refine ⟨[], _, rShow_ok _ p _ _ hdl6 ((ja * 512 : Nat) : Int) htha ((bs_own (R := R) 0 rfl hg0 hc0).rh _), ?_⟩
        rw [hoa]
        rintro _ _ ⟨A1, c1, B1, d1, rfl, rfl, hgA1, hcA1, hgB1, hcB1⟩
        refine ⟨[], _, rShow_ok _ p _ _ hdl6 ((jb * 512 : Nat) : Int) hthb ((bs_own (R := R) 0 rfl hg0 hc0).rh _), ?_⟩
        rw [hob]
        rintro _ _ ⟨A2, c2, B2, d2, rfl, rfl, hgA2, hcA2, hgB2, hcB2⟩
        refine ⟨rfl, rfl, 0, rfl, rfl, Nat.le_of_ble_eq_true rfl, ?_⟩
        refine ⟨rfl, rfl, 1, rfl, rfl, Nat.le_of_ble_eq_true rfl, ?_⟩
        exact ⟨rfl, (g11, g12, (A1, c1, B1, d1), (A2, c2, B2, d2)), ⟨hgA1, hcA1, hgB1, hcB1, hgA2, hcA2, hgB2, hcB2⟩, ⟨rfl, rfl, trivial⟩, Ent.pick [0, 1, 1, 0, 0, 0] rfl, rfl⟩
    · skip
      intro g12
      refine ⟨?_, ?_⟩
      · skip
        refine ⟨[], _, rShow_ok _ p _ _ hdl6 ((ja * 512 : Nat) : Int) htha ((bs_own (R := R) 0 rfl hg0 hc0).rh _), ?_⟩
        rw [hoa]
        rintro _ _ ⟨A1, c1, B1, d1, rfl, rfl, hgA1, hcA1, hgB1, hcB1⟩
        refine ⟨?_, ?_⟩
        · skip
          refine ⟨[], _, rShow_ok _ p _ _ hdl6 ((jb * 512 : Nat) : Int) hthb ((bs_own (R := R) 0 rfl hg0 hc0).rh _), ?_⟩
          rw [hob]
          rintro _ _ ⟨A2, c2, B2, d2, rfl, rfl, hgA2, hcA2, hgB2, hcB2⟩
          intro g11
          refine ⟨rfl, rfl, 5, rfl, rfl, Nat.le_of_ble_eq_true rfl, ?_⟩
          refine ⟨rfl, rfl, 0, rfl, rfl, Nat.le_of_ble_eq_true rfl, ?_⟩
          exact ⟨rfl, (g11, g12, (A1, c1, B1, d1), (A2, c2, B2, d2)), ⟨hgA1, hcA1, hgB1, hcB1, hgA2, hcA2, hgB2, hcB2⟩, ⟨rfl, rfl, trivial⟩, Ent.pick [5, 1, 1, 0, 0, 0] rfl, rfl⟩
        · skip
          intro g11
          refine ⟨[], _, rShow_ok _ p _ _ hdl6 ((jb * 512 : Nat) : Int) hthb ((bs_own (R := R) 0 rfl hg0 hc0).rh _), ?_⟩
          rw [hob]
          rintro _ _ ⟨A2, c2, B2, d2, rfl, rfl, hgA2, hcA2, hgB2, hcB2⟩
          refine ⟨rfl, rfl, 3, rfl, rfl, Nat.le_of_ble_eq_true rfl, ?_⟩
          refine ⟨rfl, rfl, 0, rfl, rfl, Nat.le_of_ble_eq_true rfl, ?_⟩
          exact ⟨rfl, (g11, g12, (A1, c1, B1, d1), (A2, c2, B2, d2)), ⟨hgA1, hcA1, hgB1, hcB1, hgA2, hcA2, hgB2, hcB2⟩, ⟨rfl, rfl, trivial⟩, Ent.pick [3, 1, 1, 0, 0, 0] rfl, rfl⟩
      · skip
        intro g11
        refine ⟨[], _, rShow_ok _ p _ _ hdl6 ((ja * 512 : Nat) : Int) htha ((bs_own (R := R) 0 rfl hg0 hc0).rh _), ?_⟩
        rw [hoa]
        rintro _ _ ⟨A1, c1, B1, d1, rfl, rfl, hgA1, hcA1, hgB1, hcB1⟩
        refine ⟨[], _, rShow_ok _ p _ _ hdl6 ((jb * 512 : Nat) : Int) hthb ((bs_own (R := R) 0 rfl hg0 hc0).rh _), ?_⟩
        rw [hob]
        rintro _ _ ⟨A2, c2, B2, d2, rfl, rfl, hgA2, hcA2, hgB2, hcB2⟩
        refine ⟨rfl, rfl, 1, rfl, rfl, Nat.le_of_ble_eq_true rfl, ?_⟩
        refine ⟨rfl, rfl, 0, rfl, rfl, Nat.le_of_ble_eq_true rfl, ?_⟩
        exact ⟨rfl, (g11, g12, (A1, c1, B1, d1), (A2, c2, B2, d2)), ⟨hgA1, hcA1, hgB1, hcB1, hgA2, hcA2, hgB2, hcB2⟩, ⟨rfl, rfl, trivial⟩, Ent.pick [1, 1, 1, 0, 0, 0] rfl, rfl⟩
  rintro ⟨g11, g12, ⟨A1, c1, B1, d1⟩, ⟨A2, c2, B2, d2⟩⟩ ⟨hgA1, hcA1, hgB1, hcB1, hgA2, hcA2, hgB2, hcB2⟩ js
  refine ⟨_, rdOff (o := 0) (n := 2) 2 rfl rfl, rfl, ?_⟩
  refine ⟨_, ld 2 rfl rfl, ?_⟩
  refine ⟨_, ld 2 rfl rfl, ?_⟩
  refine ⟨[], _, rNew_ok _ p.hd (.slice S0 p.sums.length cs0) p.dt.length ⟨_, _, _, rfl⟩ rfl (by omega) (by omega), ?_⟩
  rintro _ _ ⟨ga, gp, rfl, rfl⟩
  intro g13
  refine ⟨rfl, rfl, 11, rfl, rfl, Nat.le_of_ble_eq_true rfl, ?_⟩
  refine ⟨[0,0,0,0,0,0,0,0,0], .cut (.q 1 (.q 2 (.two 0 (.q 4 (.two 3 (.one 5 (.q 6 (.one 7 .nil))) 5 (.one 3 (.q 6 (.one 7 .nil))))) 3 (.one 0 (.q 4 (.one 5 (.q 6 (.one 7 .nil)))))))), by kernel_rfl, [none, none, none, none, none, none, none, none, none, none, none, none, none, none, none, none, none, none, none, none, none, none, none, none, none, none, none, none, none, none, none, none, none, none, none, none, none, none, none, none, none, none, none, none, none, none, none, none, none, none, some 50, some 51, some 52, some 53, some 54, some 55], ?_⟩
  refine ⟨[], Nat × Nat, fun _ => True, fun _ => [], fun ⟨gb, gq⟩ => [.blk g13 39 (hdC p.hd (.slice S0 p.sums.length cs0) ++ [.slice (some ⟨gb, 0, .none⟩) 2 2, .slice (some ⟨gq, 0, .none⟩) 2 2]),
    .row (some ⟨gb, 0, .none⟩) 2 2 4 1 [.bool true, .bool true] (0, 0),
    .row (some ⟨gq, 0, .none⟩) 2 2 44 5 (rsC [⟨true, partAt p ja, .slice A1 (partAt p ja).dt.length c1, .slice B1 (partAt p ja).path.length d1⟩, ⟨true, partAt p jb, .slice A2 (partAt p jb).dt.length c2, .slice B2 (partAt p jb).path.length d2⟩]) (0, 0)], ?_, ?_⟩
  · refine ⟨_, rdOff (o := 0) (n := 5) 3 rfl rfl, rfl, ?_⟩
    refine ⟨_, rdOff (o := 0) (n := 5) 6 rfl rfl, rfl, ?_⟩
    refine ⟨?_, ?_⟩
    · refine ⟨rfl, fun gb => ?_⟩
      refine ⟨?_, ?_⟩
      · refine ⟨rfl, fun gq => ?_⟩
        refine ⟨rfl, rfl, 2, rfl, rfl, Nat.le_of_ble_eq_true rfl, ?_⟩
        refine ⟨rfl, rfl, 2, rfl, rfl, Nat.le_of_ble_eq_true rfl, ?_⟩
        exact ⟨rfl, (gb, gq), trivial, trivial, Ent.pick [2, 2, 2] rfl, rfl⟩
      · refine ⟨rfl, rfl, 2, rfl, rfl, Nat.le_of_ble_eq_true rfl, ?_⟩
        refine ⟨rfl, fun gq => ?_⟩
        refine ⟨rfl, rfl, 2, rfl, rfl, Nat.le_of_ble_eq_true rfl, ?_⟩
        exact ⟨rfl, (gb, gq), trivial, trivial, Ent.pick [2, 2, 2] rfl, rfl⟩
    · refine ⟨rfl, fun gq => ?_⟩
      refine ⟨rfl, fun gb => ?_⟩
      refine ⟨rfl, rfl, 2, rfl, rfl, Nat.le_of_ble_eq_true rfl, ?_⟩
      refine ⟨rfl, rfl, 2, rfl, rfl, Nat.le_of_ble_eq_true rfl, ?_⟩
      exact ⟨rfl, (gb, gq), trivial, trivial, Ent.pick [2, 3, 2] rfl, rfl⟩
  rintro ⟨gb, gq⟩ _ js2
  obtain ⟨ok1, ok2, ok3, ok4⟩ := two_ok hv hja hjb
  obtain ⟨re1, re2, re3⟩ := two_res hv hja hjb
  have hrs : rsP [⟨true, partAt p ja, .slice A1 (partAt p ja).dt.length c1, .slice B1 (partAt p ja).path.length d1⟩, ⟨true, partAt p jb, .slice A2 (partAt p jb).dt.length c2, .slice B2 (partAt p jb).path.length d2⟩] = [partAt p ja, partAt p jb] := rfl
  refine ⟨_, rdOff (o := 0) (n := 6) 9 rfl rfl, rfl, ?_⟩
  refine ⟨[], _, rSave_ok _ p.hd (.slice S0 p.sums.length cs0) [⟨true, partAt p ja, .slice A1 (partAt p ja).dt.length c1, .slice B1 (partAt p ja).path.length d1⟩, ⟨true, partAt p jb, .slice A2 (partAt p jb).dt.length c2, .slice B2 (partAt p jb).path.length d2⟩] (some ⟨gb, 0, .none⟩) (some ⟨gq, 0, .none⟩) 2 2 hv.wf (ss_own 1 rfl hgs0 hcs0) (by show 2 ≤ 128; omega) (SlR.own 10 rfl rfl (.inr ⟨gb, rfl⟩)) (SlR.own 11 rfl rfl (.inr ⟨gq, rfl⟩)) (fun x hx _ => by
    simp only [List.mem_cons, List.not_mem_nil, or_false] at hx
    rcases hx with rfl | rfl
    · exact ⟨part_wf hv hja, bs_own 4 rfl hgA1 hcA1, ss_own 5 rfl hgB1 hcB1⟩
    · exact ⟨part_wf hv hjb, bs_own 7 rfl hgA2 hcA2, ss_own 8 rfl hgB2 hcB2⟩), ?_⟩
  rw [hrs]
  rintro _ _ ⟨E, ecap, rfl, rfl, hgE, hcE⟩
  refine ⟨[], _, Resume_ok _ (hG.rh _) (encR p.hd [partAt p ja, partAt p jb]) _ ok4 (SlR.own 12 rfl (by rw [BV_length, Nat.mul_one]) hgE), ?_⟩
  unfold ResOut
  rw [ok2, ok3]
  have of1 : (partAt p ja).off = ((ja * 512 : Nat) : Int) := rfl
  have of2 : (partAt p jb).off = ((jb * 512 : Nat) : Int) := rfl
  rintro _ _ (⟨hno, _⟩ | ⟨_, hne, rfl, rfl⟩ | ⟨_, he, g, rfl, C, cc, gdd, gp2, sl, hgC, hcC, okS, hpl, rfl⟩)
  · exact absurd ok1 hno
  · rcases Nat.lt_trichotomy ja jb with h | h | h
    · exact absurd (re3 h) hne
    · have e5 : (resL p.hd [partAt p ja, partAt p jb]).1 = 5 := by rw [re1 h]
      rw [e5]
      refine ⟨_, ld 3 rfl rfl, ?_⟩
      refine ⟨_, ld 6 rfl rfl, ?_⟩
      rw [of1, of2, h]
      repeat (first | (refine ⟨fun h => ?_, fun h => ?_⟩; rotate_left 1; (focus (exfalso; (first | (with_reducible (cases h; done)) | (revert h; simp; done) | (revert h; simp; omega) | (revert h; simp [*]; done)))); clear h) | (refine ⟨fun h => ?_, fun h => ?_⟩; (focus (exfalso; (first | (with_reducible (cases h; done)) | (revert h; simp; done) | (revert h; simp; omega) | (revert h; simp [*]; done)))); clear h))
      refine ⟨[], _, awake42_ok _ (hG.rh _), ?_⟩
      rintro _ _ ⟨rfl, rfl⟩
      repeat (first | (refine ⟨fun h => ?_, fun h => ?_⟩; rotate_left 1; (focus (exfalso; (first | (with_reducible (cases h; done)) | (revert h; simp; done) | (revert h; simp; omega) | (revert h; simp [*]; done)))); clear h) | (refine ⟨fun h => ?_, fun h => ?_⟩; (focus (exfalso; (first | (with_reducible (cases h; done)) | (revert h; simp; done) | (revert h; simp; omega) | (revert h; simp [*]; done)))); clear h))
      exact ⟨_, Ent.nil _, rfl⟩
    · have e3 : (resL p.hd [partAt p ja, partAt p jb]).1 = 3 := by rw [re2 h]
      rw [e3]
      refine ⟨_, ld 3 rfl rfl, ?_⟩
      refine ⟨_, ld 6 rfl rfl, ?_⟩
      rw [of1, of2]
      repeat (first | (refine ⟨fun h => ?_, fun h => ?_⟩; rotate_left 1; (focus (exfalso; (first | (with_reducible (cases h; done)) | (revert h; simp; done) | (revert h; simp; omega) | (revert h; simp [*]; done)))); clear h) | (refine ⟨fun h => ?_, fun h => ?_⟩; (focus (exfalso; (first | (with_reducible (cases h; done)) | (revert h; simp; done) | (revert h; simp; omega) | (revert h; simp [*]; done)))); clear h))
      refine ⟨_, ld 3 rfl rfl, ?_⟩
      refine ⟨_, ld 6 rfl rfl, ?_⟩
      repeat (first | (refine ⟨fun h => ?_, fun h => ?_⟩; rotate_left 1; (focus (exfalso; (first | (with_reducible (cases h; done)) | (revert h; simp; done) | (revert h; simp; omega) | (revert h; simp [*]; done)))); clear h) | (refine ⟨fun h => ?_, fun h => ?_⟩; (focus (exfalso; (first | (with_reducible (cases h; done)) | (revert h; simp; done) | (revert h; simp; omega) | (revert h; simp [*]; done)))); clear h))
      refine ⟨[], _, awake42_ok _ (hG.rh _), ?_⟩
      rintro _ _ ⟨rfl, rfl⟩
      repeat (first | (refine ⟨fun h => ?_, fun h => ?_⟩; rotate_left 1; (focus (exfalso; (first | (with_reducible (cases h; done)) | (revert h; simp; done) | (revert h; simp; omega) | (revert h; simp [*]; done)))); clear h) | (refine ⟨fun h => ?_, fun h => ?_⟩; (focus (exfalso; (first | (with_reducible (cases h; done)) | (revert h; simp; done) | (revert h; simp; omega) | (revert h; simp [*]; done)))); clear h))
      exact ⟨_, Ent.nil _, rfl⟩
  · have h : ja < jb := by
      rcases Nat.lt_trichotomy ja jb with h | h | h
      · exact h
      · rw [re1 h] at he; exact absurd he (by decide)
      · rw [re2 h] at he; exact absurd he (by decide)
    obtain ⟨pr1, gd, _⟩ := resL_pres hv.wf he
    rw [← hpl] at pr1 gd
    refine ⟨_, ld 3 rfl rfl, ?_⟩
    refine ⟨_, ld 6 rfl rfl, ?_⟩
    rw [of1, of2]
    repeat (first | (refine ⟨fun h => ?_, fun h => ?_⟩; rotate_left 1; (focus (exfalso; (first | (with_reducible (cases h; done)) | (revert h; simp; done) | (revert h; simp; omega) | (revert h; simp [*]; done)))); clear h) | (refine ⟨fun h => ?_, fun h => ?_⟩; (focus (exfalso; (first | (with_reducible (cases h; done)) | (revert h; simp; done) | (revert h; simp; omega) | (revert h; simp [*]; done)))); clear h))
    refine ⟨_, ld 3 rfl rfl, ?_⟩
    refine ⟨_, ld 6 rfl rfl, ?_⟩
    repeat (first | (refine ⟨fun h => ?_, fun h => ?_⟩; rotate_left 1; (focus (exfalso; (first | (with_reducible (cases h; done)) | (revert h; simp; done) | (revert h; simp; omega) | (revert h; simp [*]; done)))); clear h) | (refine ⟨fun h => ?_, fun h => ?_⟩; (focus (exfalso; (first | (with_reducible (cases h; done)) | (revert h; simp; done) | (revert h; simp; omega) | (revert h; simp [*]; done)))); clear h))
    refine ⟨[0,0,0,0,0,0,0,0,0,0,0,0,0,0,0,0,0,0], (.one 0 (.q 1 (.q 2 (.q 3 (.q 4 (.q 5 (.q 6 (.q 7 (.q 8 (.q 9 (.q 10 (.q 13 (.one 11 (.two 12 (.one 14 (.one 15 (.q 16 (.q 17 (.q 18 .nil))))) 14 (.two 12 (.one 15 (.q 16 (.q 17 (.q 18 .nil)))) 15 (.one 12 (.q 16 (.q 17 (.q 18 .nil))))))))))))))))))), by kernel_rfl, ?_⟩
    refine ⟨[], _, awake42_ok _ ((hG.rh _).rh _), ?_⟩
    rintro _ _ ⟨rfl, rfl⟩
    repeat (first | (refine ⟨fun h => ?_, fun h => ?_⟩; rotate_left 1; (focus (exfalso; (first | (with_reducible (cases h; done)) | (revert h; simp; done) | (revert h; simp; omega) | (revert h; simp [*]; done)))); clear h) | (refine ⟨fun h => ?_, fun h => ?_⟩; (focus (exfalso; (first | (with_reducible (cases h; done)) | (revert h; simp; done) | (revert h; simp; omega) | (revert h; simp [*]; done)))); clear h))
    refine ⟨_, rdOff (o := 0) (n := 6) 9 rfl rfl, rfl, ?_⟩
    repeat (first | (refine ⟨fun h => ?_, fun h => ?_⟩; rotate_left 1; (focus (exfalso; (first | (with_reducible (cases h; done)) | (revert h; simp; done) | (revert h; simp; omega) | (revert h; simp [*]; done)))); clear h) | (refine ⟨fun h => ?_, fun h => ?_⟩; (focus (exfalso; (first | (with_reducible (cases h; done)) | (revert h; simp; done) | (revert h; simp; omega) | (revert h; simp [*]; done)))); clear h))
    refine ⟨[], _, Save_ok _ gd ((rc_own (R := R) 13 14 15 16 17 hgC hcC okS rfl rfl rfl rfl rfl).rh _), ?_⟩
    rw [pr1]
    rintro _ _ ⟨F, fcap, rfl, rfl, hgF, hcF⟩
    refine ⟨?_, ?_⟩
    · repeat (first | (refine ⟨fun h => ?_, fun h => ?_⟩; rotate_left 1; (focus (exfalso; (first | (with_reducible (cases h; done)) | (revert h; simp; done) | (revert h; simp; omega) | (revert h; simp [*]; done)))); clear h) | (refine ⟨fun h => ?_, fun h => ?_⟩; (focus (exfalso; (first | (with_reducible (cases h; done)) | (revert h; simp; done) | (revert h; simp; omega) | (revert h; simp [*]; done)))); clear h))
      refine ⟨encR p.hd [partAt p ja, partAt p jb], rfl, fun j c hb => BsR.at_ (SlR.own 0 rfl (by rw [BV_length, Nat.mul_one]) hgF) hb, ?_⟩
      repeat (first | (refine ⟨fun h => ?_, fun h => ?_⟩; rotate_left 1; (focus (exfalso; (first | (with_reducible (cases h; done)) | (revert h; simp; done) | (revert h; simp; omega) | (revert h; simp [*]; done)))); clear h) | (refine ⟨fun h => ?_, fun h => ?_⟩; (focus (exfalso; (first | (with_reducible (cases h; done)) | (revert h; simp; done) | (revert h; simp; omega) | (revert h; simp [*]; done)))); clear h))
      refine ⟨[], _, rSave_ok _ p.hd (.slice S0 p.sums.length cs0) [⟨true, partAt p ja, .slice A1 (partAt p ja).dt.length c1, .slice B1 (partAt p ja).path.length d1⟩, ⟨true, partAt p jb, .slice A2 (partAt p jb).dt.length c2, .slice B2 (partAt p jb).path.length d2⟩] (some ⟨gb, 0, .none⟩) (some ⟨gq, 0, .none⟩) 2 2 hv.wf ((ss_own (R := R) 1 rfl hgs0 hcs0).rh _) (by show 2 ≤ 128; omega) ((SlR.own (R := R) 10 rfl rfl (.inr ⟨gb, rfl⟩)).rh _) ((SlR.own (R := R) 11 rfl rfl (.inr ⟨gq, rfl⟩)).rh _) (fun x hx _ => by
        simp only [List.mem_cons, List.not_mem_nil, or_false] at hx
        rcases hx with rfl | rfl
        · exact ⟨part_wf hv hja, (bs_own (R := R) 4 rfl hgA1 hcA1).rh _, (ss_own (R := R) 5 rfl hgB1 hcB1).rh _⟩
        · exact ⟨part_wf hv hjb, (bs_own (R := R) 7 rfl hgA2 hcA2).rh _, (ss_own (R := R) 8 rfl hgB2 hcB2).rh _⟩), ?_⟩
      rw [hrs]
      rintro _ _ ⟨E2, ecap2, rfl, rfl, hgE2, hcE2⟩
      repeat (first | (refine ⟨fun h => ?_, fun h => ?_⟩; rotate_left 1; (focus (exfalso; (first | (with_reducible (cases h; done)) | (revert h; simp; done) | (revert h; simp; omega) | (revert h; simp [*]; done)))); clear h) | (refine ⟨fun h => ?_, fun h => ?_⟩; (focus (exfalso; (first | (with_reducible (cases h; done)) | (revert h; simp; done) | (revert h; simp; omega) | (revert h; simp [*]; done)))); clear h))
      refine ⟨encR p.hd [partAt p ja, partAt p jb], rfl, fun j c hb => BsR.at_ (SlR.own 1 rfl (by rw [BV_length, Nat.mul_one]) hgE2) hb, ?_⟩
      repeat (first | (refine ⟨fun h => ?_, fun h => ?_⟩; rotate_left 1; (focus (exfalso; (first | (with_reducible (cases h; done)) | (revert h; simp; done) | (revert h; simp; omega) | (revert h; simp [*]; done)))); clear h) | (refine ⟨fun h => ?_, fun h => ?_⟩; (focus (exfalso; (first | (with_reducible (cases h; done)) | (revert h; simp; done) | (revert h; simp; omega) | (revert h; simp [*]; done)))); clear h))
      exact ⟨_, Ent.nil _, congrArg Value.bool (decide_eq_true rfl)⟩
    · repeat (first | (refine ⟨fun h => ?_, fun h => ?_⟩; rotate_left 1; (focus (exfalso; (first | (with_reducible (cases h; done)) | (revert h; simp; done) | (revert h; simp; omega) | (revert h; simp [*]; done)))); clear h) | (refine ⟨fun h => ?_, fun h => ?_⟩; (focus (exfalso; (first | (with_reducible (cases h; done)) | (revert h; simp; done) | (revert h; simp; omega) | (revert h; simp [*]; done)))); clear h))
      refine ⟨[], _, rSave_ok _ p.hd (.slice S0 p.sums.length cs0) [⟨true, partAt p ja, .slice A1 (partAt p ja).dt.length c1, .slice B1 (partAt p ja).path.length d1⟩, ⟨true, partAt p jb, .slice A2 (partAt p jb).dt.length c2, .slice B2 (partAt p jb).path.length d2⟩] (some ⟨gb, 0, .none⟩) (some ⟨gq, 0, .none⟩) 2 2 hv.wf ((ss_own (R := R) 1 rfl hgs0 hcs0).rh _) (by show 2 ≤ 128; omega) ((SlR.own (R := R) 10 rfl rfl (.inr ⟨gb, rfl⟩)).rh _) ((SlR.own (R := R) 11 rfl rfl (.inr ⟨gq, rfl⟩)).rh _) (fun x hx _ => by
        simp only [List.mem_cons, List.not_mem_nil, or_false] at hx
        rcases hx with rfl | rfl
        · exact ⟨part_wf hv hja, (bs_own (R := R) 4 rfl hgA1 hcA1).rh _, (ss_own (R := R) 5 rfl hgB1 hcB1).rh _⟩
        · exact ⟨part_wf hv hjb, (bs_own (R := R) 7 rfl hgA2 hcA2).rh _, (ss_own (R := R) 8 rfl hgB2 hcB2).rh _⟩), ?_⟩
      rw [hrs]
      rintro _ _ ⟨E2, ecap2, rfl, rfl, hgE2, hcE2⟩
      repeat (first | (refine ⟨fun h => ?_, fun h => ?_⟩; rotate_left 1; (focus (exfalso; (first | (with_reducible (cases h; done)) | (revert h; simp; done) | (revert h; simp; omega) | (revert h; simp [*]; done)))); clear h) | (refine ⟨fun h => ?_, fun h => ?_⟩; (focus (exfalso; (first | (with_reducible (cases h; done)) | (revert h; simp; done) | (revert h; simp; omega) | (revert h; simp [*]; done)))); clear h))
      refine ⟨?_, ?_⟩
      · repeat (first | (refine ⟨fun h => ?_, fun h => ?_⟩; rotate_left 1; (focus (exfalso; (first | (with_reducible (cases h; done)) | (revert h; simp; done) | (revert h; simp; omega) | (revert h; simp [*]; done)))); clear h) | (refine ⟨fun h => ?_, fun h => ?_⟩; (focus (exfalso; (first | (with_reducible (cases h; done)) | (revert h; simp; done) | (revert h; simp; omega) | (revert h; simp [*]; done)))); clear h))
        refine ⟨encR p.hd [partAt p ja, partAt p jb], rfl, fun j c hb => BsR.at_ (SlR.own 0 rfl (by rw [BV_length, Nat.mul_one]) hgF) hb, ?_⟩
        repeat (first | (refine ⟨fun h => ?_, fun h => ?_⟩; rotate_left 1; (focus (exfalso; (first | (with_reducible (cases h; done)) | (revert h; simp; done) | (revert h; simp; omega) | (revert h; simp [*]; done)))); clear h) | (refine ⟨fun h => ?_, fun h => ?_⟩; (focus (exfalso; (first | (with_reducible (cases h; done)) | (revert h; simp; done) | (revert h; simp; omega) | (revert h; simp [*]; done)))); clear h))
        refine ⟨encR p.hd [partAt p ja, partAt p jb], rfl, fun j c hb => BsR.at_ (SlR.own 1 rfl (by rw [BV_length, Nat.mul_one]) hgE2) hb, ?_⟩
        repeat (first | (refine ⟨fun h => ?_, fun h => ?_⟩; rotate_left 1; (focus (exfalso; (first | (with_reducible (cases h; done)) | (revert h; simp; done) | (revert h; simp; omega) | (revert h; simp [*]; done)))); clear h) | (refine ⟨fun h => ?_, fun h => ?_⟩; (focus (exfalso; (first | (with_reducible (cases h; done)) | (revert h; simp; done) | (revert h; simp; omega) | (revert h; simp [*]; done)))); clear h))
        exact ⟨_, Ent.nil _, congrArg Value.bool (decide_eq_true rfl)⟩
      · repeat (first | (refine ⟨fun h => ?_, fun h => ?_⟩; rotate_left 1; (focus (exfalso; (first | (with_reducible (cases h; done)) | (revert h; simp; done) | (revert h; simp; omega) | (revert h; simp [*]; done)))); clear h) | (refine ⟨fun h => ?_, fun h => ?_⟩; (focus (exfalso; (first | (with_reducible (cases h; done)) | (revert h; simp; done) | (revert h; simp; omega) | (revert h; simp [*]; done)))); clear h))
        refine ⟨encR p.hd [partAt p ja, partAt p jb], rfl, fun j c hb => BsR.at_ (SlR.own 1 rfl (by rw [BV_length, Nat.mul_one]) hgE2) hb, ?_⟩
        repeat (first | (refine ⟨fun h => ?_, fun h => ?_⟩; rotate_left 1; (focus (exfalso; (first | (with_reducible (cases h; done)) | (revert h; simp; done) | (revert h; simp; omega) | (revert h; simp [*]; done)))); clear h) | (refine ⟨fun h => ?_, fun h => ?_⟩; (focus (exfalso; (first | (with_reducible (cases h; done)) | (revert h; simp; done) | (revert h; simp; omega) | (revert h; simp [*]; done)))); clear h))
        refine ⟨encR p.hd [partAt p ja, partAt p jb], rfl, fun j c hb => BsR.at_ (SlR.own 0 rfl (by rw [BV_length, Nat.mul_one]) hgF) hb, ?_⟩
        repeat (first | (refine ⟨fun h => ?_, fun h => ?_⟩; rotate_left 1; (focus (exfalso; (first | (with_reducible (cases h; done)) | (revert h; simp; done) | (revert h; simp; omega) | (revert h; simp [*]; done)))); clear h) | (refine ⟨fun h => ?_, fun h => ?_⟩; (focus (exfalso; (first | (with_reducible (cases h; done)) | (revert h; simp; done) | (revert h; simp; omega) | (revert h; simp [*]; done)))); clear h))
        exact ⟨_, Ent.nil _, congrArg Value.bool (decide_eq_true rfl)⟩

end Go.Proofs.YtnifppnpplgghaaGreatDoor
