/-
  Transfer: the law TransferWhole.
-/
import Derived.Test.YtnifppnpplgghaaGreatDoorTrw
import Derived.Test.YtnifppnpplgghaaGreatDoorTrv
namespace Go.Proofs.YtnifppnpplgghaaGreatDoor
open Go Go.RowKit
set_option linter.unusedVariables false
set_option linter.unusedSimpArgs false

theorem SeenV.u16 {R : Rd} {v : Value} (h : SeenV R (.int .u16) v) : ∃ n : Nat, v = .int .u16 n ∧ n ≤ 65535 := by
  obtain ⟨⟨n, hn, hw⟩, hv⟩ := h
  rw [cells_one hv] at hn
  simp only [List.cons.injEq, and_true] at hn
  subst hn
  have : 0 ≤ n ∧ n ≤ 65535 := by simpa [Lit.wf, IntKind.has, IntKind.min, IntKind.max, IntKind.bits, IntKind.signed] using hw
  exact ⟨n.toNat, by congr 1; omega, by omega⟩
theorem SeenV.u8 {R : Rd} {v : Value} (h : SeenV R (.int .u8) v) : ∃ x : UInt8, v = .int .u8 x.toNat := by
  obtain ⟨⟨n, hn, hw⟩, hv⟩ := h
  rw [cells_one hv] at hn
  simp only [List.cons.injEq, and_true] at hn
  subst hn
  have : 0 ≤ n ∧ n ≤ 255 := by simpa [Lit.wf, IntKind.has, IntKind.min, IntKind.max, IntKind.bits, IntKind.signed] using hw
  refine ⟨UInt8.ofNat n.toNat, ?_⟩
  congr 1
  rw [UInt8.toNat_ofNat']; omega
def lfV (l : List Nat) : List Value := l.map fun j => .int .i64 ((j * 512 : Nat) : Int)
theorem lfV_one (l : List Nat) : allOne (lfV l) = true := allOne_of fun u hu => by
  obtain ⟨_, _, rfl⟩ := List.mem_map.1 hu
  rfl
theorem lfV_two (l : List Nat) (a : Nat) (xs : List Value) : repl xs 0 ++ lfV ((l.drop 0).take (a - 0)) ++ lfV ((l.drop (a + 1)).take (l.length - (a + 1))) = lfV (l.take a ++ l.drop (a + 1)) := by
  have e : repl xs 0 = [] := rfl
  rw [e, List.nil_append, List.drop_zero, Nat.sub_zero, List.take_of_length_le (l := l.drop (a + 1)) (by rw [List.length_drop]; omega)]
  unfold lfV
  rw [List.map_append]
theorem lfV_succ (j : Nat) : lfV (List.range (j + 1)) = lfV (List.range j) ++ [.int .i64 ((j * 512 : Nat) : Int)] := by unfold lfV; rw [List.range_succ, List.map_append]; rfl
theorem lfV_length (l : List Nat) : (lfV l).length = l.length := List.length_map _
theorem lf_at {R : Rd} {h : Hp} (i : Nat) {q n cap : Nat} {l : List Nat} {e : TypeId} (hi : h[i]? = some (.row (some ⟨q, 0, .none⟩) n cap e 1 (lfV l) (0, 0))) {j y : Nat} (hy : l[j]? = some y) : RH R h (addA (⟨q, 0, .none⟩ : Addr) (Int.toNat (j : Int) * 1)) (.int .i64 ((y * 512 : Nat) : Int)) := by
  rw [toNat1, ← addA_eq, add_zero_addr]
  exact ldr i hi (by unfold lfV; rw [List.getElem?_map, hy]; rfl)
theorem lfV_sub {R : Rd} {A : Option Addr} {cap : Nat} {l : List Nat} (h : SlR R 1 (.slice A l.length cap) l.length (lfV l)) {a b : Nat} (h1 : a ≤ b) (h2 : b ≤ l.length) (hc : l.length ≤ cap) :
    SlR R 1 (.slice (sliceBase A cap a 1) (b - a) (cap - a)) (b - a) (lfV ((l.drop a).take (b - a))) := by
  have hl : ((l.drop a).take (b - a)).length = b - a := by rw [List.length_take, List.length_drop]; omega
  obtain ⟨_, A', cap', e, hr⟩ := h
  cases e
  refine ⟨by rw [lfV_length, hl]; omega, _, _, rfl, fun j u hu => ?_⟩
  have hj := (List.getElem?_eq_some_iff.1 hu).1
  rw [lfV_length, hl] at hj
  unfold lfV at hu
  rw [List.getElem?_map, List.getElem?_take_of_lt (by omega), List.getElem?_drop, ← List.getElem?_map] at hu
  obtain ⟨ad, rfl, hq⟩ := hr (a + j) u hu
  refine ⟨ad.add (a * 1), ?_, ?_⟩
  · unfold sliceBase
    rw [if_neg (by omega)]; rfl
  · rw [add_add, Nat.mul_one]; exact hq

set_option maxRecDepth 100000 in
set_option maxHeartbeats 16000000 in
theorem TransferWhole_law (R : Rd) (hG : ShaG R) (v0 v1 v2 v3 v4 : Value) (s0 : SeenV R (.int .u16) v0) (s1 : SeenV R (.int .u8) v1) (s2 : SeenV R (.int .i64) v2) (s3 : SeenV R (.int .i64) v3) (s4 : SeenV R (.sl 1 (.int .u8)) v4) :
    Fn Tryz.prog 7 [v0, v1, v2, v3, v4] [] R (fun v _ => v = .bool true) := by
  have hML := maxLen_eq
  obtain ⟨t, rfl, ht⟩ := s0.u16
  obtain ⟨x, rfl⟩ := s1.u8
  obtain ⟨ix, rfl, hi1, hi2⟩ := s2.i64
  obtain ⟨n, rfl, hn1, hn2⟩ := s3.i64
  obtain ⟨d, hdl, A, cap, rfl, hc, hdr⟩ := s4.bsV
  refine fn_of_vc mixed tabOk Tryz.func7 rfl (by kernel_rfl) (Nat.le_of_ble_eq_true rfl) ?_
  by_cases h1 : n < 1
  · repeat (first | (refine ⟨fun h => ?_, fun h => ?_⟩; rotate_left 1; (focus (exfalso; (first | (with_reducible (cases h; done)) | (revert h; simp; done) | (revert h; simp; omega) | (revert h; simp [*]; done)))); clear h) | (refine ⟨fun h => ?_, fun h => ?_⟩; (focus (exfalso; (first | (with_reducible (cases h; done)) | (revert h; simp; done) | (revert h; simp; omega) | (revert h; simp [*]; done)))); clear h))
    refine ⟨[], _, awake42_ok _ (hG.rh _), ?_⟩
    rintro _ _ ⟨rfl, rfl⟩
    exact ⟨_, Ent.nil _, rfl⟩
  by_cases h2 : 16 < n
  · repeat (first | (refine ⟨fun h => ?_, fun h => ?_⟩; rotate_left 1; (focus (exfalso; (first | (with_reducible (cases h; done)) | (revert h; simp; done) | (revert h; simp; omega) | (revert h; simp [*]; done)))); clear h) | (refine ⟨fun h => ?_, fun h => ?_⟩; (focus (exfalso; (first | (with_reducible (cases h; done)) | (revert h; simp; done) | (revert h; simp; omega) | (revert h; simp [*]; done)))); clear h))
    refine ⟨[], _, awake42_ok _ (hG.rh _), ?_⟩
    rintro _ _ ⟨rfl, rfl⟩
    exact ⟨_, Ent.nil _, rfl⟩
  by_cases h3 : ix < 0
  · repeat (first | (refine ⟨fun h => ?_, fun h => ?_⟩; rotate_left 1; (focus (exfalso; (first | (with_reducible (cases h; done)) | (revert h; simp; done) | (revert h; simp; omega) | (revert h; simp [*]; done)))); clear h) | (refine ⟨fun h => ?_, fun h => ?_⟩; (focus (exfalso; (first | (with_reducible (cases h; done)) | (revert h; simp; done) | (revert h; simp; omega) | (revert h; simp [*]; done)))); clear h))
    refine ⟨[], _, awake42_ok _ (hG.rh _), ?_⟩
    rintro _ _ ⟨rfl, rfl⟩
    exact ⟨_, Ent.nil _, rfl⟩
  by_cases h4 : n ≤ ix
  · repeat (first | (refine ⟨fun h => ?_, fun h => ?_⟩; rotate_left 1; (focus (exfalso; (first | (with_reducible (cases h; done)) | (revert h; simp; done) | (revert h; simp; omega) | (revert h; simp [*]; done)))); clear h) | (refine ⟨fun h => ?_, fun h => ?_⟩; (focus (exfalso; (first | (with_reducible (cases h; done)) | (revert h; simp; done) | (revert h; simp; omega) | (revert h; simp [*]; done)))); clear h))
    refine ⟨[], _, awake42_ok _ (hG.rh _), ?_⟩
    rintro _ _ ⟨rfl, rfl⟩
    exact ⟨_, Ent.nil _, rfl⟩
  by_cases h5 : (12 : Int) < d.length
  · repeat (first | (refine ⟨fun h => ?_, fun h => ?_⟩; rotate_left 1; (focus (exfalso; (first | (with_reducible (cases h; done)) | (revert h; simp; done) | (revert h; simp; omega) | (revert h; simp [*]; done)))); clear h) | (refine ⟨fun h => ?_, fun h => ?_⟩; (focus (exfalso; (first | (with_reducible (cases h; done)) | (revert h; simp; done) | (revert h; simp; omega) | (revert h; simp [*]; done)))); clear h))
    refine ⟨[], _, awake42_ok _ (hG.rh _), ?_⟩
    rintro _ _ ⟨rfl, rfl⟩
    exact ⟨_, Ent.nil _, rfl⟩
  repeat (first | (refine ⟨fun h => ?_, fun h => ?_⟩; rotate_left 1; (focus (exfalso; (first | (with_reducible (cases h; done)) | (revert h; simp; done) | (revert h; simp; omega) | (revert h; simp [*]; done)))); clear h) | (refine ⟨fun h => ?_, fun h => ?_⟩; (focus (exfalso; (first | (with_reducible (cases h; done)) | (revert h; simp; done) | (revert h; simp; omega) | (revert h; simp [*]; done)))); clear h))
  obtain ⟨m, rfl⟩ : ∃ m : Nat, n = m := ⟨n.toNat, by omega⟩
  (intro z hz; obtain rfl : z = ((t : Nat) : Int) := (by first | (rw [IntKind.wrap_i64] at hz; omega) | (rw [IntKind.wrap_u64] at hz; omega) | omega); clear hz)
  refine ⟨by decide, ?_⟩
  intro z hz
  obtain rfl := rem_nat (a := t) (b := 2600) rfl hz
  clear hz
  (intro z hz; obtain rfl : z = ((1 + t % 2600 : Nat) : Int) := (by first | (rw [IntKind.wrap_i64] at hz; omega) | (rw [IntKind.wrap_u64] at hz; omega) | omega); clear hz)
  refine ⟨[], _, bytes_ok _ (1 + t % 2600) x (by omega), ?_⟩
  have hbl := bytesL_length (1 + t % 2600) x
  generalize bytesL (1 + t % 2600) x = dt at hbl
  rintro _ _ ⟨A0, cap0, rfl, rfl, hg0, hc0⟩
  refine ⟨[], _, piece_ok _ dt ix m _ (by omega) (by omega) (bs_own 0 rfl hg0 hc0), ?_⟩
  have hv : VPc (pieceP dt ix m) := piece_valid (by omega) (by omega) (by omega) (by omega) (by omega) (by omega)
  have hsl := pcS_length dt ix m
  rintro _ _ ⟨S0, cs0, rfl, rfl, hgs0, hcs0⟩
  obtain ⟨p, hp⟩ : ∃ p, p = pieceP dt ix m := ⟨_, rfl⟩
  have hpd : p.dt = dt := by rw [hp]; rfl
  have hps : p.sums = pcS dt ix m := by rw [hp]; rfl
  rw [← hps] at hsl hgs0 hcs0 ⊢
  rw [← hp] at hv ⊢
  rw [← hpd] at hg0 hc0 hbl ⊢
  clear hp hps hpd
  have hdl6 : p.dt.length ≤ 1000000 := by omega
  intro g11
  refine ⟨rfl, rfl, 2, rfl, rfl, Nat.le_of_ble_eq_true rfl, ?_⟩
  refine ⟨_, rdOff (o := 0) (n := 4) 2 rfl rfl, rfl, ?_⟩
  refine ⟨[], _, example_ok _ (hG.rh _) p _ _ hv (bs_own 0 rfl hg0 hc0) (ss_own 1 rfl hgs0 hcs0), ?_⟩
  rintro _ _ ⟨gs, gr, _, _, rfl, rfl, ⟨SC, scc, SDd, scd, hsg1, hsc1, hsg2, hsc2, rfl⟩, C, cc, gdd, gp, sl, hgC, hcC, okS, hpl, rfl⟩
  repeat (first | (refine ⟨fun h => ?_, fun h => ?_⟩; rotate_left 1; (focus (exfalso; (first | (with_reducible (cases h; done)) | (revert h; simp; done) | (revert h; simp; omega) | (revert h; simp [*]; done)))); clear h) | (refine ⟨fun h => ?_, fun h => ?_⟩; (focus (exfalso; (first | (with_reducible (cases h; done)) | (revert h; simp; done) | (revert h; simp; omega) | (revert h; simp [*]; done)))); clear h))
  refine ⟨rfl, fun gl => ?_⟩
  refine ⟨[none, none, none, none, none, none, none, none, none, none, none, none, none, none, some 14, some 15, none, none, none, none, none, none, none, none, none, none, none, none, none, none, none, none, none, none, none, none, none, none, none, none, none, none, none, none, none, none, none, none, none, none, none, none, none, none, none, none, none, none, none, none, none, none, none, none, none, none, some 66, some 67, some 68, some 69, some 70, some 71, some 72, some 73, some 74, some 75, some 76], [14, 15], Nat × (Option Addr × Nat), fun ⟨j, (P, pc)⟩ => j ≤ partsN p.dt.length ∧ grow j P,
    fun ⟨j, (P, pc)⟩ => [.slice P j pc, .int .i64 j],
    fun ⟨j, (P, pc)⟩ => [.row A0 p.dt.length cap0 5 1 (BV p.dt) (0, 0), .row S0 p.sums.length cs0 9 1 (SV p.sums) (0, 0), .blk g11 56 (pcC p (.slice A0 p.dt.length cap0) (.slice S0 p.sums.length cs0)), .blk gs 134 (hdC p.hd (.slice SC p.sums.length scc) ++ [.slice SDd p.dt.length scd]), .row SC p.sums.length scc 9 1 (SV p.sums) (0, 0), .row SDd p.dt.length scd 5 1 (BV p.dt) (0, 0), .blk gr 96 (rcC p.hd C cc gdd gp sl.length), .row C p.hd.sums.length cc 9 1 (SV p.hd.sums) (0, 0), .row (some ⟨gdd, 0, .none⟩) sl.length sl.length 41 1 (sl.map Sl.dv) (0, 0), .row (some ⟨gp, 0, .none⟩) sl.length sl.length 24 1 (sl.map Sl.pv) (0, 0), .rows (rowsS sl), .row P j pc 3 1 (lfV (List.range j)) (0, 0)], fun ⟨j, _⟩ => partsN p.dt.length - j, (0, (some ⟨gl, 0, .none⟩, 0)), ⟨Nat.zero_le _, .inr ⟨gl, rfl⟩⟩, ⟨rfl, rfl, trivial⟩, Ent.refl _, ?_⟩
  rintro ⟨j, ⟨P, pc⟩⟩ ⟨hj, hgP⟩ js
  have hj : j ≤ partsN p.dt.length := hj
  have hp6 : partsN p.dt.length ≤ 6 := by unfold partsN; omega
  refine ⟨[], _, SParts_ok _ hdl6 (sd_own 3 4 5 hsg1 hsc1 hsg2 hsc2 rfl rfl rfl), ?_⟩
  rintro _ _ ⟨rfl, rfl⟩
  refine ⟨fun hb => ?_, fun hb => ?_⟩
  · replace hb := of_decide_eq_true hb
    have hlt : j < partsN p.dt.length := by omega
    intro z hz
    obtain rfl := mul_nat (a := j) (b := 512) (by omega) hz
    clear hz
    refine ⟨rfl, fun gq => ?_⟩
    refine ⟨[.int .i64 ((j * 512 : Nat) : Int)], rfl, slr_src (SlR.own 12 rfl rfl (.inr ⟨gq, rfl⟩)), rfl, by show (_ + 1) * 8 ≤ _; omega, by omega, .inr ⟨11, rfl, rfl, rfl, rfl, rfl, rfl, fun P' pc' hg' => ?_⟩⟩
    (intro z hz; obtain rfl : z = ((j + 1 : Nat) : Int) := (by first | (rw [IntKind.wrap_i64] at hz; omega) | (rw [IntKind.wrap_u64] at hz; omega) | omega); clear hz)
    refine ⟨rfl, (j + 1, (P', pc')), ⟨hlt, hg'⟩, by show partsN p.dt.length - (j + 1) < partsN p.dt.length - j; omega, ⟨rfl, rfl, trivial⟩, ?_, rfl⟩
    show Ent _ ([.row A0 p.dt.length cap0 5 1 (BV p.dt) (0, 0), .row S0 p.sums.length cs0 9 1 (SV p.sums) (0, 0), .blk g11 56 (pcC p (.slice A0 p.dt.length cap0) (.slice S0 p.sums.length cs0)), .blk gs 134 (hdC p.hd (.slice SC p.sums.length scc) ++ [.slice SDd p.dt.length scd]), .row SC p.sums.length scc 9 1 (SV p.sums) (0, 0), .row SDd p.dt.length scd 5 1 (BV p.dt) (0, 0), .blk gr 96 (rcC p.hd C cc gdd gp sl.length), .row C p.hd.sums.length cc 9 1 (SV p.hd.sums) (0, 0), .row (some ⟨gdd, 0, .none⟩) sl.length sl.length 41 1 (sl.map Sl.dv) (0, 0), .row (some ⟨gp, 0, .none⟩) sl.length sl.length 24 1 (sl.map Sl.pv) (0, 0), .rows (rowsS sl), .row P' (j + 1) pc' 3 1 (lfV (List.range (j + 1))) (0, 0)] : Hp)
    rw [lfV_succ]
    exact Ent.pick [0, 0, 0, 0, 0, 0, 0, 0, 0, 0, 0, 0] rfl
  · replace hb := of_decide_eq_false hb
    obtain rfl : j = partsN p.dt.length := by omega
    have hh0 : HonS p (List.range (partsN p.dt.length)) (sl.map Sl.pl) := by rw [hpl]; exact HonS.new hv
    have hl0 : (List.range (partsN p.dt.length)).length = partsN p.dt.length := List.length_range
    generalize List.range (partsN p.dt.length) = lf at hh0 hl0 ⊢
    rw [← hl0] at hgP hp6 ⊢
    clear hpl hj hb hl0
    refine ⟨[none, none, none, none, none, none, none, none, none, none, some 10, none, none, some 13, some 14, none, some 16, some 17, some 18, some 19, some 20, some 21, none, none, none, none, none, none, none, none, none, none, none, none, none, none, none, none, none, none, none, none, none, none, none, none, none, none, none, none, none, none, none, none, none, none, none, none, none, none, none, none, none, none, none, none, none, none, none, none, none, none, none, none, none, none, none, some 77, some 78, some 79, some 80, some 81, some 82, some 83, some 84, some 85, some 86, some 87, some 88, some 89, some 90, some 91, some 92, some 93, some 94, some 95, some 96, some 97, some 98, some 99, some 100, some 101, some 102, some 103, some 104, some 105, some 106, some 107, some 108, some 109, some 110, some 111, some 112, some 113, some 114, some 115, some 116, some 117, some 118, some 119, some 120, some 121, some 122, some 123, some 124, some 125, some 126, some 127, some 128, some 129, some 130, some 131, some 132, some 133, some 134, some 135, some 136, some 137, some 138, some 139, some 140, some 141, some 142, some 143, some 144, some 145, some 146, some 147, some 148, some 149, some 150, some 151, some 152, some 153, some 154], [13, 14, 16], Nat × Nat × (Option Addr × Nat × Nat × Nat × List Sl) × (List Nat × Option Addr × Nat),
      fun ⟨i, gr, (C, cc, gdd, gp, sl), (lf, P, pc)⟩ => (grow p.hd.sums.length C ∧ p.hd.sums.length ≤ cc ∧ (∀ s ∈ sl, SlOk s)) ∧ HonS p lf (sl.map Sl.pl) ∧ grow lf.length P ∧ i + lf.length ≤ 6,
      fun ⟨i, gr, _, (lf, P, pc)⟩ => [.pointer (some ⟨gr, 0, .none⟩), .slice P lf.length pc, .int .i64 i],
      fun ⟨i, gr, (C, cc, gdd, gp, sl), (lf, P, pc)⟩ => [.row A0 p.dt.length cap0 5 1 (BV p.dt) (0, 0), .row S0 p.sums.length cs0 9 1 (SV p.sums) (0, 0), .blk g11 56 (pcC p (.slice A0 p.dt.length cap0) (.slice S0 p.sums.length cs0)), .blk gs 134 (hdC p.hd (.slice SC p.sums.length scc) ++ [.slice SDd p.dt.length scd]), .row SC p.sums.length scc 9 1 (SV p.sums) (0, 0), .row SDd p.dt.length scd 5 1 (BV p.dt) (0, 0), .blk gr 96 (rcC p.hd C cc gdd gp sl.length), .row C p.hd.sums.length cc 9 1 (SV p.hd.sums) (0, 0), .row (some ⟨gdd, 0, .none⟩) sl.length sl.length 41 1 (sl.map Sl.dv) (0, 0), .row (some ⟨gp, 0, .none⟩) sl.length sl.length 24 1 (sl.map Sl.pv) (0, 0), .rows (rowsS sl), .row P lf.length pc 3 1 (lfV lf) (0, 0)],
      fun ⟨i, gr, _, (lf, P, pc)⟩ => lf.length, (0, gr, (C, cc, gdd, gp, sl), (lf, P, pc)), ⟨⟨hgC, hcC, okS⟩, hh0, hgP, by show 0 + lf.length ≤ 6; omega⟩, ⟨rfl, rfl, rfl, trivial⟩, Ent.refl _, ?_⟩
    clear hgC hcC okS hh0 hgP hp6
    rintro ⟨i, gr, ⟨C, cc, gdd, gp, sl⟩, ⟨lf, P, pc⟩⟩ ⟨⟨hgC, hcC, okS⟩, hh, hgP, hp6⟩ js2
    have hp6 : i + lf.length ≤ 6 := hp6
    refine ⟨fun hb => ?_, fun hb => ?_⟩
    · replace hb := of_decide_eq_true hb
      obtain ⟨q, rfl⟩ : ∃ q, P = some ⟨q, 0, .none⟩ := by
        rcases hgP with h | ⟨q, rfl⟩
        · omega
        · exact ⟨q, rfl⟩
      refine ⟨fun hb => ?_, fun hb => ?_⟩
      · replace hb := of_decide_eq_true hb
        have hil : i < d.length := by omega
        obtain ⟨ad, hAd, hbr⟩ := hdr.one hil
        subst hAd
        refine ⟨by omega, by omega, ad, rfl, _, .inl hbr, ?_⟩
        have hb8 : (d.getD i 0).toNat < 256 := UInt8.toNat_lt _
        (intro z hz; obtain rfl : z = (((d.getD i 0).toNat : Nat) : Int) := (by first | (rw [IntKind.wrap_i64] at hz; omega) | (rw [IntKind.wrap_u64] at hz; omega) | omega); clear hz)
        refine ⟨by omega, ?_⟩
        intro z hz
        obtain rfl := rem_nat (a := (d.getD i 0).toNat) (b := lf.length) rfl hz
        clear hz
        have hat : (d.getD i 0).toNat % lf.length < lf.length := Nat.mod_lt _ (by omega)
        generalize (d.getD i 0).toNat % lf.length = a at hat ⊢
        obtain ⟨y, hy⟩ : ∃ y, lf[a]? = some y := ⟨_, List.getElem?_eq_getElem hat⟩
        have hym := List.mem_of_getElem? hy
        have hyp := hh.lt y hym
        have hy6 : y ≤ 6 := by unfold partsN at hyp; omega
        refine ⟨by omega, by omega, _, rfl, ?_⟩
        refine ⟨_, lf_at 11 rfl hy, ?_⟩
        refine ⟨[], _, SPart_ok _ (hG.rh _) hdl6 ((y * 512 : Nat) : Int) (by omega) (by omega) (sd_own 3 4 5 hsg1 hsc1 hsg2 hsc2 rfl rfl rfl), ?_⟩
        have hth : thereB p.dt.length ((y * 512 : Nat) : Int) = true := part_there (p := p) hyp
        have hoy : ((y * 512 : Nat) : Int).toNat / 512 = y := part_off p y
        rw [hoy]
        rintro _ _ (⟨hno, _⟩ | ⟨_, AD, acd, AP, acp, rfl, rfl, hgAD, hcAD, hgAP, hcAP⟩)
        · rw [hth] at hno; cases hno
        intro g18
        refine ⟨rfl, rfl, 14, rfl, rfl, Nat.le_of_ble_eq_true rfl, ?_⟩
        repeat (first | (refine ⟨fun h => ?_, fun h => ?_⟩; rotate_left 1; (focus (exfalso; (first | (with_reducible (cases h; done)) | (revert h; simp; done) | (revert h; simp; omega) | (revert h; simp [*]; done)))); clear h) | (refine ⟨fun h => ?_, fun h => ?_⟩; (focus (exfalso; (first | (with_reducible (cases h; done)) | (revert h; simp; done) | (revert h; simp; omega) | (revert h; simp [*]; done)))); clear h))
        refine ⟨_, rdOff (o := 0) (n := 5) 14 rfl rfl, rfl, ?_⟩
        repeat (first | (refine ⟨fun h => ?_, fun h => ?_⟩; rotate_left 1; (focus (exfalso; (first | (with_reducible (cases h; done)) | (revert h; simp; done) | (revert h; simp; omega) | (revert h; simp [*]; done)))); clear h) | (refine ⟨fun h => ?_, fun h => ?_⟩; (focus (exfalso; (first | (with_reducible (cases h; done)) | (revert h; simp; done) | (revert h; simp; omega) | (revert h; simp [*]; done)))); clear h))
        have hdt := part_dt_le p y
        have hpt := part_path_le p y
        obtain ⟨hE, hh2⟩ := hh.take hv hy
        refine ⟨[6, 6, 6, 6, 6, 6], _, fn_rowc 5 rfl (callable Tryz.func17 rfl (by kernel_rfl)) fun hcap _ => Fn.frame (h := rcH gr p.hd C cc gdd gp sl) (k := [_]) (Receive_ok _ ((hG.rh _).rh _) (sls := sl.map Sl.pl) (partAt p y) (.slice AD (partAt p y).dt.length acd) (.slice AP (partAt p y).path.length acp) ⟨C, cc, gdd, gp, sl, hgC, hcC, okS, rfl, rfl⟩ hh.gd (by show _ ≤ ((y * 512 : Nat) : Int); omega) (by show ((y * 512 : Nat) : Int) ≤ _; omega) (by omega) (by omega) ((bs_own 6 rfl hgAD hcAD).rh _) ((ss_own 7 rfl hgAP hcAP).rh _)), ?_⟩
        clear hgC hcC okS hh
        rintro _ _ ⟨hcap, _, rfl, rfl, C, cc, gdd, gp, sl, hgC, hcC, okS, hsl2, rfl⟩
        rw [hE]
        rw [← hsl2] at hh2
        repeat (first | (refine ⟨fun h => ?_, fun h => ?_⟩; rotate_left 1; (focus (exfalso; (first | (with_reducible (cases h; done)) | (revert h; simp; done) | (revert h; simp; omega) | (revert h; simp [*]; done)))); clear h) | (refine ⟨fun h => ?_, fun h => ?_⟩; (focus (exfalso; (first | (with_reducible (cases h; done)) | (revert h; simp; done) | (revert h; simp; omega) | (revert h; simp [*]; done)))); clear h))
        refine ⟨[9], (.q 1 (.q 2 (.q 3 (.q 5 (.q 6 (.q 7 (.q 8 (.one 0 (.one 4 (.one 9 (.q 10 .nil))))))))))), by kernel_rfl, ?_⟩
        refine ⟨0, a, rfl, rfl, by omega, by omega, ?_⟩
        (intro z hz; obtain rfl : z = ((a + 1 : Nat) : Int) := (by first | (rw [IntKind.wrap_i64] at hz; omega) | (rw [IntKind.wrap_u64] at hz; omega) | omega); clear hz)
        refine ⟨a + 1, lf.length, rfl, rfl, by omega, hcap, ?_⟩
        refine ⟨rfl, fun gz => ?_⟩
        refine ⟨lfV ((lf.drop 0).take (a - 0)), by rw [lfV_length, List.length_take, List.length_drop]; show _ = (_ - _) * 1; omega, slr_src ((lfV_sub (SlR.own 0 rfl (by rw [lfV_length, Nat.mul_one]) (.inr ⟨q, rfl⟩)) (Nat.zero_le _) (Nat.le_of_lt hat) hcap).rh _), lfV_one _, by show (_ + _) * 8 ≤ _; omega, by omega, .inr ⟨14, rfl, rfl, rfl, rfl, rfl, rfl, fun P1 pc1 hg1 => ?_⟩⟩
        refine ⟨lfV ((lf.drop (a + 1)).take (lf.length - (a + 1))), by rw [lfV_length, List.length_take, List.length_drop]; show _ = (_ - _) * 1; omega, slr_src ((lfV_sub (SlR.own 0 rfl (by rw [lfV_length, Nat.mul_one]) (.inr ⟨q, rfl⟩)) hat (Nat.le_refl _) hcap).rh _), lfV_one _, by show (_ + _) * 8 ≤ _; omega, by omega, .inr ⟨14, rfl, rfl, rfl, rfl, rfl, rfl, fun P2 pc2 hg2 => ?_⟩⟩
        have el : 0 + (a - 0) + (lf.length - (a + 1)) = (lf.take a ++ lf.drop (a + 1)).length := by rw [List.length_append, List.length_take, List.length_drop]; omega
        rw [el] at hg2 ⊢
        rw [lfV_two]
        have hm2 : (lf.take a ++ lf.drop (a + 1)).length + 1 = lf.length := by rw [List.length_append, List.length_take, List.length_drop]; omega
        generalize lf.take a ++ lf.drop (a + 1) = lf2 at hh2 hg2 hm2 ⊢
        repeat (first | (refine ⟨fun h => ?_, fun h => ?_⟩; rotate_left 1; (focus (exfalso; (first | (with_reducible (cases h; done)) | (revert h; simp; done) | (revert h; simp; omega) | (revert h; simp [*]; done)))); clear h) | (refine ⟨fun h => ?_, fun h => ?_⟩; (focus (exfalso; (first | (with_reducible (cases h; done)) | (revert h; simp; done) | (revert h; simp; omega) | (revert h; simp [*]; done)))); clear h))
        refine ⟨by omega, by omega, ad, rfl, ?_⟩
        repeat (first | (refine ⟨fun h => ?_, fun h => ?_⟩; rotate_left 1; (focus (exfalso; (first | (with_reducible (cases h; done)) | (revert h; simp; done) | (revert h; simp; omega) | (revert h; simp [*]; done)))); clear h) | (refine ⟨fun h => ?_, fun h => ?_⟩; (focus (exfalso; (first | (with_reducible (cases h; done)) | (revert h; simp; done) | (revert h; simp; omega) | (revert h; simp [*]; done)))); clear h))
        refine ⟨_, .inl hbr, ?_⟩
        repeat (first | (refine ⟨fun h => ?_, fun h => ?_⟩; rotate_left 1; (focus (exfalso; (first | (with_reducible (cases h; done)) | (revert h; simp; done) | (revert h; simp; omega) | (revert h; simp [*]; done)))); clear h) | (refine ⟨fun h => ?_, fun h => ?_⟩; (focus (exfalso; (first | (with_reducible (cases h; done)) | (revert h; simp; done) | (revert h; simp; omega) | (revert h; simp [*]; done)))); clear h))
        refine ⟨by decide, ?_⟩
        intro z hz
        clear hz
        by_cases hz1 : z = 1
        · repeat (first | (refine ⟨fun h => ?_, fun h => ?_⟩; rotate_left 1; (focus (exfalso; (first | (with_reducible (cases h; done)) | (revert h; simp; done) | (revert h; simp; omega) | (revert h; simp [*]; done)))); clear h) | (refine ⟨fun h => ?_, fun h => ?_⟩; (focus (exfalso; (first | (with_reducible (cases h; done)) | (revert h; simp; done) | (revert h; simp; omega) | (revert h; simp [*]; done)))); clear h))
          have hgd := hh2.gd
          obtain ⟨rb1, rb2, rb3, rb4⟩ := res_back hgd
          refine ⟨[], _, Save_ok _ hgd (rc_own 10 11 12 13 14 hgC hcC okS rfl rfl rfl rfl rfl), ?_⟩
          have hbk : encR p.hd (pres p.hd (sl.map Sl.pl)) = encR p.hd (pres p.hd (sl.map Sl.pl)) := rfl
          generalize hbb : encR p.hd (pres p.hd (sl.map Sl.pl)) = b at rb1 rb2 rb3 rb4 ⊢
          rintro _ _ ⟨BA, bcap, rfl, rfl, hgB, hcB⟩
          refine ⟨[], _, Resume_ok _ (hG.rh _) b _ rb4 (SlR.own 16 rfl (by rw [BV_length, Nat.mul_one]) hgB), ?_⟩
          rintro _ _ (⟨hno, _⟩ | ⟨_, hne, _⟩ | ⟨_, he, gr2, rfl, C2, cc2, gdd2, gp2, sl2, hgC2, hcC2, okS2, hsl3, rfl⟩)
          · exact absurd rb1 hno
          · rw [rb3] at hne; exact absurd rfl hne
          rw [rb3] at hsl3
          rw [rb2] at hgC2 hcC2 ⊢
          have hgd2 : GoodR p.hd (sl2.map Sl.pl) := by rw [hsl3]; exact hgd
          have hh3 : HonS p lf2 (sl2.map Sl.pl) := by rw [hsl3]; exact hh2
          have hbb2 : encR p.hd (pres p.hd (sl2.map Sl.pl)) = b := by rw [hsl3]; exact hbb
          clear rb1 rb2 rb3 hbk he
          repeat (first | (refine ⟨fun h => ?_, fun h => ?_⟩; rotate_left 1; (focus (exfalso; (first | (with_reducible (cases h; done)) | (revert h; simp; done) | (revert h; simp; omega) | (revert h; simp [*]; done)))); clear h) | (refine ⟨fun h => ?_, fun h => ?_⟩; (focus (exfalso; (first | (with_reducible (cases h; done)) | (revert h; simp; done) | (revert h; simp; omega) | (revert h; simp [*]; done)))); clear h))
          refine ⟨[10,10,10,10,10,12,12,12,12,12], (.q 0 (.q 1 (.q 2 (.q 3 (.q 4 (.q 5 (.q 6 (.q 7 (.q 10 (.one 8 (.two 9 (.one 11 (.one 12 (.q 13 (.q 14 .nil)))) 11 (.two 9 (.one 12 (.q 13 (.q 14 .nil))) 12 (.one 9 (.q 13 (.q 14 .nil))))))))))))))), by kernel_rfl, ?_⟩
          repeat (first | (refine ⟨fun h => ?_, fun h => ?_⟩; rotate_left 1; (focus (exfalso; (first | (with_reducible (cases h; done)) | (revert h; simp; done) | (revert h; simp; omega) | (revert h; simp [*]; done)))); clear h) | (refine ⟨fun h => ?_, fun h => ?_⟩; (focus (exfalso; (first | (with_reducible (cases h; done)) | (revert h; simp; done) | (revert h; simp; omega) | (revert h; simp [*]; done)))); clear h))
          refine ⟨[], _, Save_ok _ hgd2 ((rc_own (R := R) 5 6 7 8 9 hgC2 hcC2 okS2 rfl rfl rfl rfl rfl).rh _), ?_⟩
          rw [hbb2]
          rintro _ _ ⟨B1, bc1, rfl, rfl, hgB1, hcB1⟩
          refine ⟨?_, ?_⟩
          · repeat (first | (refine ⟨fun h => ?_, fun h => ?_⟩; rotate_left 1; (focus (exfalso; (first | (with_reducible (cases h; done)) | (revert h; simp; done) | (revert h; simp; omega) | (revert h; simp [*]; done)))); clear h) | (refine ⟨fun h => ?_, fun h => ?_⟩; (focus (exfalso; (first | (with_reducible (cases h; done)) | (revert h; simp; done) | (revert h; simp; omega) | (revert h; simp [*]; done)))); clear h))
            refine ⟨b, rfl, fun j c hb => BsR.at_ (SlR.own 12 rfl (by rw [BV_length, Nat.mul_one]) hgB1) hb, ?_⟩
            repeat (first | (refine ⟨fun h => ?_, fun h => ?_⟩; rotate_left 1; (focus (exfalso; (first | (with_reducible (cases h; done)) | (revert h; simp; done) | (revert h; simp; omega) | (revert h; simp [*]; done)))); clear h) | (refine ⟨fun h => ?_, fun h => ?_⟩; (focus (exfalso; (first | (with_reducible (cases h; done)) | (revert h; simp; done) | (revert h; simp; omega) | (revert h; simp [*]; done)))); clear h))
            refine ⟨[], _, Save_ok _ hgd ((rc_own (R := R) 0 1 2 3 4 hgC hcC okS rfl rfl rfl rfl rfl).rh _), ?_⟩
            rw [hbb]
            rintro _ _ ⟨B2, bc2, rfl, rfl, hgB2, hcB2⟩
            repeat (first | (refine ⟨fun h => ?_, fun h => ?_⟩; rotate_left 1; (focus (exfalso; (first | (with_reducible (cases h; done)) | (revert h; simp; done) | (revert h; simp; omega) | (revert h; simp [*]; done)))); clear h) | (refine ⟨fun h => ?_, fun h => ?_⟩; (focus (exfalso; (first | (with_reducible (cases h; done)) | (revert h; simp; done) | (revert h; simp; omega) | (revert h; simp [*]; done)))); clear h))
            refine ⟨b, rfl, fun j c hb => BsR.at_ (SlR.own 13 rfl (by rw [BV_length, Nat.mul_one]) hgB2) hb, ?_⟩
            repeat (first | (refine ⟨fun h => ?_, fun h => ?_⟩; rotate_left 1; (focus (exfalso; (first | (with_reducible (cases h; done)) | (revert h; simp; done) | (revert h; simp; omega) | (revert h; simp [*]; done)))); clear h) | (refine ⟨fun h => ?_, fun h => ?_⟩; (focus (exfalso; (first | (with_reducible (cases h; done)) | (revert h; simp; done) | (revert h; simp; omega) | (revert h; simp [*]; done)))); clear h))
            (intro z hz; obtain rfl : z = ((i + 1 : Nat) : Int) := (by first | (rw [IntKind.wrap_i64] at hz; omega) | (rw [IntKind.wrap_u64] at hz; omega) | omega); clear hz)
            exact ⟨rfl, (i + 1, gr2, (C2, cc2, gdd2, gp2, sl2), (lf2, P2, pc2)), ⟨⟨hgC2, hcC2, okS2⟩, hh3, hg2, by show i + 1 + lf2.length ≤ 6; omega⟩, by show lf2.length < lf.length; omega, ⟨rfl, rfl, rfl, trivial⟩, Ent.pick [11, 11, 11, 11, 11, 11, 5, 5, 5, 5, 5, 9] rfl, rfl⟩
          · repeat (first | (refine ⟨fun h => ?_, fun h => ?_⟩; rotate_left 1; (focus (exfalso; (first | (with_reducible (cases h; done)) | (revert h; simp; done) | (revert h; simp; omega) | (revert h; simp [*]; done)))); clear h) | (refine ⟨fun h => ?_, fun h => ?_⟩; (focus (exfalso; (first | (with_reducible (cases h; done)) | (revert h; simp; done) | (revert h; simp; omega) | (revert h; simp [*]; done)))); clear h))
            refine ⟨[], _, Save_ok _ hgd ((rc_own (R := R) 0 1 2 3 4 hgC hcC okS rfl rfl rfl rfl rfl).rh _), ?_⟩
            rw [hbb]
            rintro _ _ ⟨B2, bc2, rfl, rfl, hgB2, hcB2⟩
            repeat (first | (refine ⟨fun h => ?_, fun h => ?_⟩; rotate_left 1; (focus (exfalso; (first | (with_reducible (cases h; done)) | (revert h; simp; done) | (revert h; simp; omega) | (revert h; simp [*]; done)))); clear h) | (refine ⟨fun h => ?_, fun h => ?_⟩; (focus (exfalso; (first | (with_reducible (cases h; done)) | (revert h; simp; done) | (revert h; simp; omega) | (revert h; simp [*]; done)))); clear h))
            refine ⟨?_, ?_⟩
            · repeat (first | (refine ⟨fun h => ?_, fun h => ?_⟩; rotate_left 1; (focus (exfalso; (first | (with_reducible (cases h; done)) | (revert h; simp; done) | (revert h; simp; omega) | (revert h; simp [*]; done)))); clear h) | (refine ⟨fun h => ?_, fun h => ?_⟩; (focus (exfalso; (first | (with_reducible (cases h; done)) | (revert h; simp; done) | (revert h; simp; omega) | (revert h; simp [*]; done)))); clear h))
              refine ⟨b, rfl, fun j c hb => BsR.at_ (SlR.own 12 rfl (by rw [BV_length, Nat.mul_one]) hgB1) hb, ?_⟩
              repeat (first | (refine ⟨fun h => ?_, fun h => ?_⟩; rotate_left 1; (focus (exfalso; (first | (with_reducible (cases h; done)) | (revert h; simp; done) | (revert h; simp; omega) | (revert h; simp [*]; done)))); clear h) | (refine ⟨fun h => ?_, fun h => ?_⟩; (focus (exfalso; (first | (with_reducible (cases h; done)) | (revert h; simp; done) | (revert h; simp; omega) | (revert h; simp [*]; done)))); clear h))
              refine ⟨b, rfl, fun j c hb => BsR.at_ (SlR.own 13 rfl (by rw [BV_length, Nat.mul_one]) hgB2) hb, ?_⟩
              repeat (first | (refine ⟨fun h => ?_, fun h => ?_⟩; rotate_left 1; (focus (exfalso; (first | (with_reducible (cases h; done)) | (revert h; simp; done) | (revert h; simp; omega) | (revert h; simp [*]; done)))); clear h) | (refine ⟨fun h => ?_, fun h => ?_⟩; (focus (exfalso; (first | (with_reducible (cases h; done)) | (revert h; simp; done) | (revert h; simp; omega) | (revert h; simp [*]; done)))); clear h))
              (intro z hz; obtain rfl : z = ((i + 1 : Nat) : Int) := (by first | (rw [IntKind.wrap_i64] at hz; omega) | (rw [IntKind.wrap_u64] at hz; omega) | omega); clear hz)
              exact ⟨rfl, (i + 1, gr2, (C2, cc2, gdd2, gp2, sl2), (lf2, P2, pc2)), ⟨⟨hgC2, hcC2, okS2⟩, hh3, hg2, by show i + 1 + lf2.length ≤ 6; omega⟩, by show lf2.length < lf.length; omega, ⟨rfl, rfl, rfl, trivial⟩, Ent.pick [11, 11, 11, 11, 11, 11, 5, 5, 5, 5, 5, 9] rfl, rfl⟩
            · repeat (first | (refine ⟨fun h => ?_, fun h => ?_⟩; rotate_left 1; (focus (exfalso; (first | (with_reducible (cases h; done)) | (revert h; simp; done) | (revert h; simp; omega) | (revert h; simp [*]; done)))); clear h) | (refine ⟨fun h => ?_, fun h => ?_⟩; (focus (exfalso; (first | (with_reducible (cases h; done)) | (revert h; simp; done) | (revert h; simp; omega) | (revert h; simp [*]; done)))); clear h))
              refine ⟨b, rfl, fun j c hb => BsR.at_ (SlR.own 13 rfl (by rw [BV_length, Nat.mul_one]) hgB2) hb, ?_⟩
              repeat (first | (refine ⟨fun h => ?_, fun h => ?_⟩; rotate_left 1; (focus (exfalso; (first | (with_reducible (cases h; done)) | (revert h; simp; done) | (revert h; simp; omega) | (revert h; simp [*]; done)))); clear h) | (refine ⟨fun h => ?_, fun h => ?_⟩; (focus (exfalso; (first | (with_reducible (cases h; done)) | (revert h; simp; done) | (revert h; simp; omega) | (revert h; simp [*]; done)))); clear h))
              refine ⟨b, rfl, fun j c hb => BsR.at_ (SlR.own 12 rfl (by rw [BV_length, Nat.mul_one]) hgB1) hb, ?_⟩
              repeat (first | (refine ⟨fun h => ?_, fun h => ?_⟩; rotate_left 1; (focus (exfalso; (first | (with_reducible (cases h; done)) | (revert h; simp; done) | (revert h; simp; omega) | (revert h; simp [*]; done)))); clear h) | (refine ⟨fun h => ?_, fun h => ?_⟩; (focus (exfalso; (first | (with_reducible (cases h; done)) | (revert h; simp; done) | (revert h; simp; omega) | (revert h; simp [*]; done)))); clear h))
              (intro z hz; obtain rfl : z = ((i + 1 : Nat) : Int) := (by first | (rw [IntKind.wrap_i64] at hz; omega) | (rw [IntKind.wrap_u64] at hz; omega) | omega); clear hz)
              exact ⟨rfl, (i + 1, gr2, (C2, cc2, gdd2, gp2, sl2), (lf2, P2, pc2)), ⟨⟨hgC2, hcC2, okS2⟩, hh3, hg2, by show i + 1 + lf2.length ≤ 6; omega⟩, by show lf2.length < lf.length; omega, ⟨rfl, rfl, rfl, trivial⟩, Ent.pick [11, 11, 11, 11, 11, 11, 5, 5, 5, 5, 5, 9] rfl, rfl⟩
        · repeat (first | (refine ⟨fun h => ?_, fun h => ?_⟩; rotate_left 1; (focus (exfalso; (first | (with_reducible (cases h; done)) | (revert h; simp; done) | (revert h; simp; omega) | (revert h; simp [*]; done)))); clear h) | (refine ⟨fun h => ?_, fun h => ?_⟩; (focus (exfalso; (first | (with_reducible (cases h; done)) | (revert h; simp; done) | (revert h; simp; omega) | (revert h; simp [*]; done)))); clear h))
          (intro z hz; obtain rfl : z = ((i + 1 : Nat) : Int) := (by first | (rw [IntKind.wrap_i64] at hz; omega) | (rw [IntKind.wrap_u64] at hz; omega) | omega); clear hz)
          exact ⟨rfl, (i + 1, gr, (C, cc, gdd, gp, sl), (lf2, P2, pc2)), ⟨⟨hgC, hcC, okS⟩, hh2, hg2, by show i + 1 + lf2.length ≤ 6; omega⟩, by show lf2.length < lf.length; omega, ⟨rfl, rfl, rfl, trivial⟩, Ent.pick [1, 1, 1, 1, 1, 1, 4, 4, 4, 4, 4, 4] rfl, rfl⟩
      · replace hb := of_decide_eq_false hb
        have hat : 0 < lf.length := by omega
        obtain ⟨y, hy⟩ : ∃ y, lf[0]? = some y := ⟨_, List.getElem?_eq_getElem hat⟩
        have hym := List.mem_of_getElem? hy
        have hyp := hh.lt y hym
        have hy6 : y ≤ 6 := by unfold partsN at hyp; omega
        refine ⟨by omega, by omega, _, rfl, ?_⟩
        refine ⟨_, lf_at 11 rfl hy, ?_⟩
        refine ⟨[], _, SPart_ok _ (hG.rh _) hdl6 ((y * 512 : Nat) : Int) (by omega) (by omega) (sd_own 3 4 5 hsg1 hsc1 hsg2 hsc2 rfl rfl rfl), ?_⟩
        have hth : thereB p.dt.length ((y * 512 : Nat) : Int) = true := part_there (p := p) hyp
        have hoy : ((y * 512 : Nat) : Int).toNat / 512 = y := part_off p y
        rw [hoy]
        rintro _ _ (⟨hno, _⟩ | ⟨_, AD, acd, AP, acp, rfl, rfl, hgAD, hcAD, hgAP, hcAP⟩)
        · rw [hth] at hno; cases hno
        intro g18
        refine ⟨rfl, rfl, 14, rfl, rfl, Nat.le_of_ble_eq_true rfl, ?_⟩
        repeat (first | (refine ⟨fun h => ?_, fun h => ?_⟩; rotate_left 1; (focus (exfalso; (first | (with_reducible (cases h; done)) | (revert h; simp; done) | (revert h; simp; omega) | (revert h; simp [*]; done)))); clear h) | (refine ⟨fun h => ?_, fun h => ?_⟩; (focus (exfalso; (first | (with_reducible (cases h; done)) | (revert h; simp; done) | (revert h; simp; omega) | (revert h; simp [*]; done)))); clear h))
        refine ⟨_, rdOff (o := 0) (n := 5) 14 rfl rfl, rfl, ?_⟩
        repeat (first | (refine ⟨fun h => ?_, fun h => ?_⟩; rotate_left 1; (focus (exfalso; (first | (with_reducible (cases h; done)) | (revert h; simp; done) | (revert h; simp; omega) | (revert h; simp [*]; done)))); clear h) | (refine ⟨fun h => ?_, fun h => ?_⟩; (focus (exfalso; (first | (with_reducible (cases h; done)) | (revert h; simp; done) | (revert h; simp; omega) | (revert h; simp [*]; done)))); clear h))
        have hdt := part_dt_le p y
        have hpt := part_path_le p y
        obtain ⟨hE, hh2⟩ := hh.take hv hy
        refine ⟨[6, 6, 6, 6, 6, 6], _, fn_rowc 5 rfl (callable Tryz.func17 rfl (by kernel_rfl)) fun hcap _ => Fn.frame (h := rcH gr p.hd C cc gdd gp sl) (k := [_]) (Receive_ok _ ((hG.rh _).rh _) (sls := sl.map Sl.pl) (partAt p y) (.slice AD (partAt p y).dt.length acd) (.slice AP (partAt p y).path.length acp) ⟨C, cc, gdd, gp, sl, hgC, hcC, okS, rfl, rfl⟩ hh.gd (by show _ ≤ ((y * 512 : Nat) : Int); omega) (by show ((y * 512 : Nat) : Int) ≤ _; omega) (by omega) (by omega) ((bs_own 6 rfl hgAD hcAD).rh _) ((ss_own 7 rfl hgAP hcAP).rh _)), ?_⟩
        clear hgC hcC okS hh
        rintro _ _ ⟨hcap, _, rfl, rfl, C, cc, gdd, gp, sl, hgC, hcC, okS, hsl2, rfl⟩
        rw [hE]
        rw [← hsl2] at hh2
        repeat (first | (refine ⟨fun h => ?_, fun h => ?_⟩; rotate_left 1; (focus (exfalso; (first | (with_reducible (cases h; done)) | (revert h; simp; done) | (revert h; simp; omega) | (revert h; simp [*]; done)))); clear h) | (refine ⟨fun h => ?_, fun h => ?_⟩; (focus (exfalso; (first | (with_reducible (cases h; done)) | (revert h; simp; done) | (revert h; simp; omega) | (revert h; simp [*]; done)))); clear h))
        refine ⟨[9], (.q 1 (.q 2 (.q 3 (.q 5 (.q 6 (.q 7 (.q 8 (.one 0 (.one 4 (.one 9 (.q 10 .nil))))))))))), by kernel_rfl, ?_⟩
        refine ⟨0, 0, rfl, rfl, by omega, by omega, ?_⟩
        (intro z hz; obtain rfl : z = ((0 + 1 : Nat) : Int) := (by first | (rw [IntKind.wrap_i64] at hz; omega) | (rw [IntKind.wrap_u64] at hz; omega) | omega); clear hz)
        refine ⟨0 + 1, lf.length, rfl, rfl, by omega, hcap, ?_⟩
        refine ⟨rfl, fun gz => ?_⟩
        refine ⟨lfV ((lf.drop 0).take (0 - 0)), by rw [lfV_length, List.length_take, List.length_drop]; show _ = (_ - _) * 1; omega, slr_src ((lfV_sub (SlR.own 0 rfl (by rw [lfV_length, Nat.mul_one]) (.inr ⟨q, rfl⟩)) (Nat.zero_le _) (Nat.le_of_lt hat) hcap).rh _), lfV_one _, by show (_ + _) * 8 ≤ _; omega, by omega, .inr ⟨14, rfl, rfl, rfl, rfl, rfl, rfl, fun P1 pc1 hg1 => ?_⟩⟩
        refine ⟨lfV ((lf.drop (0 + 1)).take (lf.length - (0 + 1))), by rw [lfV_length, List.length_take, List.length_drop]; show _ = (_ - _) * 1; omega, slr_src ((lfV_sub (SlR.own 0 rfl (by rw [lfV_length, Nat.mul_one]) (.inr ⟨q, rfl⟩)) hat (Nat.le_refl _) hcap).rh _), lfV_one _, by show (_ + _) * 8 ≤ _; omega, by omega, .inr ⟨14, rfl, rfl, rfl, rfl, rfl, rfl, fun P2 pc2 hg2 => ?_⟩⟩
        have el : 0 + (0 - 0) + (lf.length - (0 + 1)) = (lf.take 0 ++ lf.drop (0 + 1)).length := by rw [List.length_append, List.length_take, List.length_drop]; omega
        rw [el] at hg2 ⊢
        rw [lfV_two]
        have hm2 : (lf.take 0 ++ lf.drop (0 + 1)).length + 1 = lf.length := by rw [List.length_append, List.length_take, List.length_drop]; omega
        generalize lf.take 0 ++ lf.drop (0 + 1) = lf2 at hh2 hg2 hm2 ⊢
        repeat (first | (refine ⟨fun h => ?_, fun h => ?_⟩; rotate_left 1; (focus (exfalso; (first | (with_reducible (cases h; done)) | (revert h; simp; done) | (revert h; simp; omega) | (revert h; simp [*]; done)))); clear h) | (refine ⟨fun h => ?_, fun h => ?_⟩; (focus (exfalso; (first | (with_reducible (cases h; done)) | (revert h; simp; done) | (revert h; simp; omega) | (revert h; simp [*]; done)))); clear h))
        (intro z hz; obtain rfl : z = ((i + 1 : Nat) : Int) := (by first | (rw [IntKind.wrap_i64] at hz; omega) | (rw [IntKind.wrap_u64] at hz; omega) | omega); clear hz)
        exact ⟨rfl, (i + 1, gr, (C, cc, gdd, gp, sl), (lf2, P2, pc2)), ⟨⟨hgC, hcC, okS⟩, hh2, hg2, by show i + 1 + lf2.length ≤ 6; omega⟩, by show lf2.length < lf.length; omega, ⟨rfl, rfl, rfl, trivial⟩, Ent.pick [1, 1, 1, 1, 1, 1, 4, 4, 4, 4, 4, 4] rfl, rfl⟩
    · replace hb := of_decide_eq_false hb
      obtain rfl : lf = [] := List.length_eq_zero_iff.1 (by omega)
      obtain ⟨hms, hdd⟩ := hh.done
      have ep : (⟨p.hd.st, p.hd.ix, haveB (sl.map Sl.pl), p.hd.sums⟩ : Pc) = p := by rw [hdd]; rfl
      have hlen := hh.gd.len
      rw [List.length_map] at hlen
      have hsl5 : sl.length ≤ 1000000 := by
        rw [hlen]; show partsN (p.dt.length : Int).toNat ≤ _; rw [Int.toNat_natCast]; unfold partsN; omega
      refine ⟨[], _, Piece_ok42 _ hsl5 (by show p.sums.length ≤ _; omega) (by rw [hdd]; omega) (rc_own 6 7 8 9 10 hgC hcC okS rfl rfl rfl rfl rfl), ?_⟩
      rw [ep]
      rintro _ _ (⟨hno, _⟩ | ⟨_, PA, pca, PB, pcb, rfl, rfl, hgPA, hcPA, hgPB, hcPB⟩)
      · exact absurd hms hno
      intro g22
      refine ⟨rfl, rfl, 14, rfl, rfl, Nat.le_of_ble_eq_true rfl, ?_⟩
      refine ⟨[], _, awake42_ok _ (hG.rh _), ?_⟩
      rintro _ _ ⟨rfl, rfl⟩
      repeat (first | (refine ⟨fun h => ?_, fun h => ?_⟩; rotate_left 1; (focus (exfalso; (first | (with_reducible (cases h; done)) | (revert h; simp; done) | (revert h; simp; omega) | (revert h; simp [*]; done)))); clear h) | (refine ⟨fun h => ?_, fun h => ?_⟩; (focus (exfalso; (first | (with_reducible (cases h; done)) | (revert h; simp; done) | (revert h; simp; omega) | (revert h; simp [*]; done)))); clear h))
      refine ⟨_, rdOff (o := 0) (n := 4) 2 rfl rfl, rfl, ?_⟩
      repeat (first | (refine ⟨fun h => ?_, fun h => ?_⟩; rotate_left 1; (focus (exfalso; (first | (with_reducible (cases h; done)) | (revert h; simp; done) | (revert h; simp; omega) | (revert h; simp [*]; done)))); clear h) | (refine ⟨fun h => ?_, fun h => ?_⟩; (focus (exfalso; (first | (with_reducible (cases h; done)) | (revert h; simp; done) | (revert h; simp; omega) | (revert h; simp [*]; done)))); clear h))
      refine ⟨_, rdOff (o := 0) (n := 4) 14 rfl rfl, rfl, ?_⟩
      repeat (first | (refine ⟨fun h => ?_, fun h => ?_⟩; rotate_left 1; (focus (exfalso; (first | (with_reducible (cases h; done)) | (revert h; simp; done) | (revert h; simp; omega) | (revert h; simp [*]; done)))); clear h) | (refine ⟨fun h => ?_, fun h => ?_⟩; (focus (exfalso; (first | (with_reducible (cases h; done)) | (revert h; simp; done) | (revert h; simp; omega) | (revert h; simp [*]; done)))); clear h))
      refine ⟨[], _, same42_ok _ p p _ _ _ _ (by omega) (bs_own 0 rfl hg0 hc0) (ss_own 1 rfl hgs0 hcs0) (bs_own 12 rfl hgPA hcPA) (ss_own 13 rfl hgPB hcPB), ?_⟩
      rintro _ _ ⟨rfl, rfl⟩
      rw [decide_eq_true (show eqPc p p from ⟨⟨rfl, rfl⟩, rfl, rfl⟩)]
      repeat (first | (refine ⟨fun h => ?_, fun h => ?_⟩; rotate_left 1; (focus (exfalso; (first | (with_reducible (cases h; done)) | (revert h; simp; done) | (revert h; simp; omega) | (revert h; simp [*]; done)))); clear h) | (refine ⟨fun h => ?_, fun h => ?_⟩; (focus (exfalso; (first | (with_reducible (cases h; done)) | (revert h; simp; done) | (revert h; simp; omega) | (revert h; simp [*]; done)))); clear h))
      exact ⟨_, Ent.nil _, rfl⟩

end Go.Proofs.YtnifppnpplgghaaGreatDoor
