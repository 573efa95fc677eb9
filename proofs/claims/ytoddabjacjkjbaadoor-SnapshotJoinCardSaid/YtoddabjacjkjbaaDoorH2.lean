/-
  Contracts of the reference of SHA-256: a block.
-/
import Derived.Test.YtoddabjacjkjbaaDoorH1
namespace Go.Proofs.YtoddabjacjkjbaaDoor
open Go Go.RowKit

theorem WV_one (l : List W32) : allOne (WV l) = true := allOne_of fun u hu => by
  obtain ⟨b, _, rfl⟩ := List.mem_map.1 hu; rfl
def kW : List W32 := shaK.map (BitVec.ofNat 32)
theorem kW_get {t : Nat} (h : t < 64) : kW[t]? = some (shaK_at t) := by
  have hl : shaK.length = 64 := rfl
  rw [kW, List.getElem?_map, List.getElem?_eq_getElem (by omega), shaK_at, List.getD_eq_getElem?_getD, List.getElem?_eq_getElem (by omega)]
  rfl

def kV : List Value := [.int .u32 1116352408, .int .u32 1899447441, .int .u32 3049323471, .int .u32 3921009573, .int .u32 961987163, .int .u32 1508970993, .int .u32 2453635748, .int .u32 2870763221, .int .u32 3624381080, .int .u32 310598401, .int .u32 607225278, .int .u32 1426881987, .int .u32 1925078388, .int .u32 2162078206, .int .u32 2614888103, .int .u32 3248222580, .int .u32 3835390401, .int .u32 4022224774, .int .u32 264347078, .int .u32 604807628, .int .u32 770255983, .int .u32 1249150122, .int .u32 1555081692, .int .u32 1996064986, .int .u32 2554220882, .int .u32 2821834349, .int .u32 2952996808, .int .u32 3210313671, .int .u32 3336571891, .int .u32 3584528711, .int .u32 113926993, .int .u32 338241895, .int .u32 666307205, .int .u32 773529912, .int .u32 1294757372, .int .u32 1396182291, .int .u32 1695183700, .int .u32 1986661051, .int .u32 2177026350, .int .u32 2456956037, .int .u32 2730485921, .int .u32 2820302411, .int .u32 3259730800, .int .u32 3345764771, .int .u32 3516065817, .int .u32 3600352804, .int .u32 4094571909, .int .u32 275423344, .int .u32 430227734, .int .u32 506948616, .int .u32 659060556, .int .u32 883997877, .int .u32 958139571, .int .u32 1322822218, .int .u32 1537002063, .int .u32 1747873779, .int .u32 1955562222, .int .u32 2024104815, .int .u32 2227730452, .int .u32 2361852424, .int .u32 2428436474, .int .u32 2756734187, .int .u32 3204031479, .int .u32 3329325298]
theorem kV_eq : kV = WV kW := by kernel_rfl

set_option maxRecDepth 100000 in
theorem refconstants_ok (R : Rd) : Fn Tryd.prog 173 [] [] R (fun v h => v = .agg ⟨WV kW⟩ ∧ h = []) := by
  refine fn_of_vc mixed tabOk Tryd.func173 rfl (by kernel_rfl) (Nat.le_of_ble_eq_true rfl) ?_
  intro g
  refine ⟨rfl, rfl, 0, rfl, rfl, Nat.le_of_ble_eq_true rfl, ?_⟩
  refine ⟨kV, rdPre (ys := []) (xs := kV) (g := g) (t := 232) 0 (by kernel_rfl), rfl, _, Ent.drop [] [_], by rw [← kV_eq]; rfl, rfl⟩

set_option maxRecDepth 100000 in
set_option maxHeartbeats 8000000 in
theorem refBlock_ok (R : Rd) (hw : S8) (b : List UInt8) (A : Option Addr) (cap : Nat) (hbl : b.length = 64) (hs : BsR R (.slice A 64 cap) b) :
    Fn Tryd.prog 141 [.agg ⟨WV hw.list⟩, .slice A 64 cap] [] R (fun v h => v = .agg ⟨WV (compress hw b).list⟩ ∧ h = []) := by
  have e1 : setRange (List.replicate 64 (Value.int .u32 0)) 0 (WV kW) = WV kW := setRange_all (by rw [WV_length, List.length_replicate]; kernel_rfl)
  have e2 : setRange (List.replicate 64 (Value.int .u32 0)) 0 (List.replicate 64 (Value.int .u32 0)) = List.replicate 64 (Value.int .u32 0) := setRange_all rfl
  refine fn_of_vc mixed tabOk Tryd.func141 rfl (by kernel_rfl) (Nat.le_of_ble_eq_true rfl) ?_
  intro g2
  intro g4
  refine ⟨[], _, refconstants_ok _, ?_⟩
  rintro _ _ ⟨rfl, rfl⟩
  intro g5
  refine ⟨rfl, rfl, 2, rfl, rfl, Nat.le_of_ble_eq_true rfl, ?_⟩
  intro g6
  refine ⟨rfl, rfl, 3, rfl, rfl, Nat.le_of_ble_eq_true rfl, ?_⟩
  refine ⟨[none, none, none, none, none, none, none, some 7, none, none, none, none, none, none, none, none, none, none, none, none, none, none, none, none, some 24, some 25, some 26, some 27, some 28, some 29, some 30, some 31, some 32, some 33, some 34, some 35, some 36, some 37, some 38, some 39, some 40, some 41, some 42, some 43, some 44, some 45, some 46, some 47, some 48, some 49, some 50, some 51, some 52, some 53, some 54, some 55, some 56, some 57, some 58, some 59, some 60, some 61, some 62], [7], Nat, fun t => t ≤ 16, fun t => [.int .i64 t], fun t => [.blk g2 193 (WV hw.list), .blk g4 193 (List.replicate 8 (.int .u32 0)), .blk g5 232 (WV kW), .blk g6 232 (WV (wArr b t))], fun t => 16 - t, 0, Nat.zero_le _, ⟨rfl, trivial⟩, by show Ent [_, _, .blk g5 _ (setRange (List.replicate 64 (.int .u32 0)) 0 (WV kW)), .blk g6 _ (setRange (List.replicate 64 (.int .u32 0)) 0 (List.replicate 64 (.int .u32 0)))] [_, _, .blk g5 _ (WV kW), .blk g6 _ (WV (wArr b 0))]; rw [e1, e2, ← wArr_zero]; exact Ent.refl _, ?_⟩
  intro t ht js
  refine ⟨fun hb => ?_, fun hb => ?_⟩
  · replace hb := of_decide_eq_true hb
    have hlt : t < 16 := by omega
    clear hb
    obtain ⟨a0, ha0, hr0⟩ := hs.one (i := 4 * t) (by omega)
    obtain ⟨a1, ha1, hr1⟩ := hs.one (i := 4 * t + 1) (by omega)
    obtain ⟨a2, ha2, hr2⟩ := hs.one (i := 4 * t + 2) (by omega)
    obtain ⟨a3, ha3, hr3⟩ := hs.one (i := 4 * t + 3) (by omega)
    refine ⟨[0,0,0,0], (.q 0 (.q 1 (.q 2 (.q 3 (.q 4 (.q 5 (.q 6 (.q 7 (.q 8 (.q 9 (.q 10 (.q 11 (.q 12 (.q 13 (.q 14 (.q 15 (.q 16 (.q 17 (.q 18 (.q 19 (.q 20 (.q 21 (.q 22 (.q 23 (.q 24 (.q 25 (.q 26 (.q 27 (.q 28 (.q 29 (.q 30 (.q 31 (.q 32 (.q 33 (.q 34 (.fin 35)))))))))))))))))))))))))))))))))))), by kernel_rfl, ?_⟩
    (intro z hz; obtain rfl : z = ((4 * t : Nat) : Int) := (by first | (rw [IntKind.wrap_i64] at hz; omega) | (rw [IntKind.wrap_u64] at hz; omega) | omega); clear hz)
    refine ⟨by omega, by omega, a0, ha0, _, .inl hr0, ?_⟩
    (intro z hz; obtain rfl := bv_byte hz; clear hz)
    (refine ⟨by decide, ?_⟩; intro z hz; obtain rfl := bv_shl (n := 24) (by omega) hz; clear hz)
    (intro z hz; obtain rfl : z = ((4 * t : Nat) : Int) := (by first | (rw [IntKind.wrap_i64] at hz; omega) | (rw [IntKind.wrap_u64] at hz; omega) | omega); clear hz)
    (intro z hz; obtain rfl : z = ((4 * t + 1 : Nat) : Int) := (by first | (rw [IntKind.wrap_i64] at hz; omega) | (rw [IntKind.wrap_u64] at hz; omega) | omega); clear hz)
    refine ⟨by omega, by omega, a1, ha1, _, .inl hr1, ?_⟩
    (intro z hz; obtain rfl := bv_byte hz; clear hz)
    (refine ⟨by decide, ?_⟩; intro z hz; obtain rfl := bv_shl (n := 16) (by omega) hz; clear hz)
    (intro z hz; obtain rfl := bv_or hz; clear hz)
    (intro z hz; obtain rfl : z = ((4 * t : Nat) : Int) := (by first | (rw [IntKind.wrap_i64] at hz; omega) | (rw [IntKind.wrap_u64] at hz; omega) | omega); clear hz)
    (intro z hz; obtain rfl : z = ((4 * t + 2 : Nat) : Int) := (by first | (rw [IntKind.wrap_i64] at hz; omega) | (rw [IntKind.wrap_u64] at hz; omega) | omega); clear hz)
    refine ⟨by omega, by omega, a2, ha2, _, .inl hr2, ?_⟩
    (intro z hz; obtain rfl := bv_byte hz; clear hz)
    (refine ⟨by decide, ?_⟩; intro z hz; obtain rfl := bv_shl (n := 8) (by omega) hz; clear hz)
    (intro z hz; obtain rfl := bv_or hz; clear hz)
    (intro z hz; obtain rfl : z = ((4 * t : Nat) : Int) := (by first | (rw [IntKind.wrap_i64] at hz; omega) | (rw [IntKind.wrap_u64] at hz; omega) | omega); clear hz)
    (intro z hz; obtain rfl : z = ((4 * t + 3 : Nat) : Int) := (by first | (rw [IntKind.wrap_i64] at hz; omega) | (rw [IntKind.wrap_u64] at hz; omega) | omega); clear hz)
    refine ⟨by omega, by omega, a3, ha3, _, .inl hr3, ?_⟩
    (intro z hz; obtain rfl := bv_byte hz; clear hz)
    (intro z hz; obtain rfl := bv_or hz; clear hz)
    refine ⟨by omega, by omega, ?_⟩
    refine ⟨rfl, rfl, 3, nthK_mk rfl (stb0 (by rw [WV_length, wArr_length b (by omega)]; omega) ?_)⟩
    (intro z hz; obtain rfl : z = ((t + 1 : Nat) : Int) := (by first | (rw [IntKind.wrap_i64] at hz; omega) | (rw [IntKind.wrap_u64] at hz; omega) | omega); clear hz)
    refine ⟨rfl, t + 1, by show t + 1 ≤ 16; omega, by show 16 - (t + 1) < 16 - t; omega, ⟨rfl, trivial⟩, ?_, rfl⟩
    rw [WV_set, wArr_set b (by omega) (by rw [if_pos hlt]; rfl)]
    exact Ent.refl _
  · replace hb := of_decide_eq_false hb
    obtain rfl : t = 16 := by omega
    clear hb
    refine ⟨[none, none, none, none, none, none, none, none, some 8, some 9, some 10, none, none, none, none, none, none, none, none, none, none, none, none, none, none, none, none, none, none, none, none, none, none, none, none, none, none, none, none, none, none, none, none, none, none, none, none, none, none, none, none, none, none, none, none, none, none, none, none, none, none, none, none, some 63, some 64, some 65, some 66, some 67, some 68, some 69, some 70, some 71, some 72, some 73, some 74, some 75, some 76, some 77, some 78, some 79, some 80, some 81, some 82, some 83, some 84, some 85, some 86, some 87, some 88, some 89, some 90, some 91, some 92, some 93, some 94, some 95, some 96, some 97, some 98, some 99, some 100, some 101, some 102, some 103, some 104, some 105, some 106, some 107, some 108, some 109, some 110, some 111, some 112, some 113, some 114, some 115], [8], Nat, fun t => 16 ≤ t ∧ t ≤ 64, fun t => [.int .i64 t], fun t => [.blk g2 193 (WV hw.list), .blk g4 193 (List.replicate 8 (.int .u32 0)), .blk g5 232 (WV kW), .blk g6 232 (WV (wArr b t))], fun t => 64 - t, 16, ⟨Nat.le_refl _, by omega⟩, ⟨rfl, trivial⟩, Ent.refl _, ?_⟩
    rintro t ⟨ht16, ht⟩ js2
    refine ⟨fun hb => ?_, fun hb => ?_⟩
    · replace hb := of_decide_eq_true hb
      have ht64 : t < 64 := by omega
      clear hb
      refine ⟨[0,0,0,0], (.q 0 (.q 1 (.q 2 (.q 3 (.q 5 (.q 6 (.q 7 (.q 8 (.q 11 (.q 12 (.q 13 (.q 14 (.q 15 (.one 4 (.one 9 (.q 10 (.q 16 (.q 17 .nil)))))))))))))))))), by kernel_rfl, ?_⟩
      (intro z hz; obtain rfl : z = ((t - 15 : Nat) : Int) := (by first | (rw [IntKind.wrap_i64] at hz; omega) | (rw [IntKind.wrap_u64] at hz; omega) | omega); clear hz)
      refine ⟨by omega, by omega, _, ldb0 3 rfl (WV_get (wArr_get b (by omega))), ?_⟩
      (intro z hz; obtain rfl : z = ((t - 15 : Nat) : Int) := (by first | (rw [IntKind.wrap_i64] at hz; omega) | (rw [IntKind.wrap_u64] at hz; omega) | omega); clear hz)
      refine ⟨by omega, by omega, _, ldb0 3 rfl (WV_get (wArr_get b (by omega))), ?_⟩
      (intro z hz; obtain rfl : z = ((t - 15 : Nat) : Int) := (by first | (rw [IntKind.wrap_i64] at hz; omega) | (rw [IntKind.wrap_u64] at hz; omega) | omega); clear hz)
      refine ⟨by omega, by omega, _, ldb0 3 rfl (WV_get (wArr_get b (by omega))), ?_⟩
      (refine ⟨by decide, ?_⟩; intro z hz; obtain rfl := bv_shr (n := 3) (by omega) hz; clear hz)
      (refine ⟨[], _, refrotr_ok _ _ 7 (by omega) (by omega), ?_⟩; rintro _ _ ⟨rfl, rfl⟩)
      (refine ⟨[], _, refrotr_ok _ _ 18 (by omega) (by omega), ?_⟩; rintro _ _ ⟨rfl, rfl⟩)
      (intro z hz; obtain rfl := bv_xor hz; clear hz)
      (intro z hz; obtain rfl := bv_xor hz; clear hz)
      refine ⟨[0,0,0,0], (.q 0 (.q 1 (.q 2 (.q 3 (.q 5 (.q 6 (.q 7 (.q 8 (.q 11 (.q 12 (.q 13 (.q 14 (.q 15 (.one 4 (.one 9 (.q 10 (.q 16 (.q 17 .nil)))))))))))))))))), by kernel_rfl, ?_⟩
      (intro z hz; obtain rfl : z = ((t - 2 : Nat) : Int) := (by first | (rw [IntKind.wrap_i64] at hz; omega) | (rw [IntKind.wrap_u64] at hz; omega) | omega); clear hz)
      refine ⟨by omega, by omega, _, ldb0 3 rfl (WV_get (wArr_get b (by omega))), ?_⟩
      (intro z hz; obtain rfl : z = ((t - 2 : Nat) : Int) := (by first | (rw [IntKind.wrap_i64] at hz; omega) | (rw [IntKind.wrap_u64] at hz; omega) | omega); clear hz)
      refine ⟨by omega, by omega, _, ldb0 3 rfl (WV_get (wArr_get b (by omega))), ?_⟩
      (intro z hz; obtain rfl : z = ((t - 2 : Nat) : Int) := (by first | (rw [IntKind.wrap_i64] at hz; omega) | (rw [IntKind.wrap_u64] at hz; omega) | omega); clear hz)
      refine ⟨by omega, by omega, _, ldb0 3 rfl (WV_get (wArr_get b (by omega))), ?_⟩
      (refine ⟨by decide, ?_⟩; intro z hz; obtain rfl := bv_shr (n := 10) (by omega) hz; clear hz)
      (refine ⟨[], _, refrotr_ok _ _ 17 (by omega) (by omega), ?_⟩; rintro _ _ ⟨rfl, rfl⟩)
      (refine ⟨[], _, refrotr_ok _ _ 19 (by omega) (by omega), ?_⟩; rintro _ _ ⟨rfl, rfl⟩)
      (intro z hz; obtain rfl := bv_xor hz; clear hz)
      (intro z hz; obtain rfl := bv_xor hz; clear hz)
      refine ⟨[0,0,0,0], (.q 0 (.q 1 (.q 2 (.q 3 (.q 4 (.q 5 (.q 6 (.q 7 (.q 8 (.q 9 (.q 10 (.q 11 (.q 12 (.q 13 (.q 14 (.fin 15)))))))))))))))), by kernel_rfl, ?_⟩
      (intro z hz; obtain rfl : z = ((t - 7 : Nat) : Int) := (by first | (rw [IntKind.wrap_i64] at hz; omega) | (rw [IntKind.wrap_u64] at hz; omega) | omega); clear hz)
      refine ⟨by omega, by omega, _, ldb0 3 rfl (WV_get (wArr_get b (by omega))), ?_⟩
      (intro z hz; obtain rfl := bv_add hz; clear hz)
      (intro z hz; obtain rfl := bv_add hz; clear hz)
      (intro z hz; obtain rfl : z = ((t - 16 : Nat) : Int) := (by first | (rw [IntKind.wrap_i64] at hz; omega) | (rw [IntKind.wrap_u64] at hz; omega) | omega); clear hz)
      refine ⟨by omega, by omega, _, ldb0 3 rfl (WV_get (wArr_get b (by omega))), ?_⟩
      (intro z hz; obtain rfl := bv_add hz; clear hz)
      refine ⟨by omega, by omega, ?_⟩
      refine ⟨rfl, rfl, 3, nthK_mk rfl (stb0 (by rw [WV_length, wArr_length b ht]; exact ht64) ?_)⟩
      (intro z hz; obtain rfl : z = ((t + 1 : Nat) : Int) := (by first | (rw [IntKind.wrap_i64] at hz; omega) | (rw [IntKind.wrap_u64] at hz; omega) | omega); clear hz)
      refine ⟨rfl, t + 1, ⟨by omega, ht64⟩, by show 64 - (t + 1) < 64 - t; omega, ⟨rfl, trivial⟩, ?_, rfl⟩
      rw [WV_set, wArr_set b ht64 (by rw [if_neg (by omega)]; rfl)]
      exact Ent.refl _
    · replace hb := of_decide_eq_false hb
      obtain rfl : t = 64 := by omega
      clear hb
      refine ⟨WV hw.list, rdPre (ys := []) 0 rfl, rfl, ?_⟩
      intro g11
      refine ⟨rfl, rfl, 4, rfl, rfl, Nat.le_of_ble_eq_true rfl, ?_⟩
      refine ⟨[none, none, none, none, none, none, none, none, none, none, none, none, some 12, some 13, some 14, some 15, some 16, some 17, some 18, some 19, some 20, none, none, none, none, none, none, none, none, none, none, none, none, none, none, none, none, none, none, none, none, none, none, none, none, none, none, none, none, none, none, none, none, none, none, none, none, none, none, none, none, none, none, none, none, none, none, none, none, none, none, none, none, none, none, none, none, none, none, none, none, none, none, none, none, none, none, none, none, none, none, none, none, none, none, none, none, none, none, none, none, none, none, none, none, none, none, none, none, none, none, none, none, none, none, none, none, some 117, some 118, some 119, some 120, some 121, some 122, some 123, some 124, some 125, some 126, some 127, some 128, some 129, some 130, some 131, some 132, some 133, some 134, some 135, some 136, some 137, some 138, some 139, some 140, some 141, some 142, some 143, some 144, some 145, some 146, some 147, some 148, some 149, some 150, some 151, some 152, some 153, some 154, some 155, some 156, some 157, some 158, some 159, some 160, some 161, some 162, some 163, some 164, some 165, some 166, some 167, some 168, some 169, some 170, some 171, some 172, some 173, some 174, some 175, some 176, some 177, some 178, some 179, some 180, some 181, some 182, some 183, some 184, some 185, some 186, some 187, some 188, some 189, some 190, some 191, some 192, some 193, some 194], [12], Nat × S8, fun ⟨t, s⟩ => t ≤ 64 ∧ s = rounds (sched b 64) hw t, fun ⟨t, s⟩ => [.int .i64 t],
        fun ⟨_, s⟩ => [.blk g2 193 (WV hw.list), .blk g4 193 (List.replicate 8 (.int .u32 0)), .blk g5 232 (WV kW), .blk g6 232 (WV (wArr b 64)), .blk g11 193 (WV s.list)], fun ⟨t, _⟩ => 64 - t, (0, hw), ⟨Nat.zero_le _, rfl⟩, ⟨rfl, trivial⟩, Ent.refl _, ?_⟩
      rintro ⟨t, sa, sb, sc, sd, se, sf, sg, sh⟩ ⟨ht, hst⟩ js3
      refine ⟨fun hb => ?_, fun hb => ?_⟩
      · replace hb := of_decide_eq_true hb
        have ht64 : t < 64 := by omega
        clear hb
        refine ⟨[0,0,0,0,0], lexT 0 18, by kernel_rfl, ?_⟩
        refine ⟨by decide, by decide, _, ld 4 rfl rfl, ?_⟩
        refine ⟨by decide, by decide, _, ld 4 rfl rfl, ?_⟩
        refine ⟨by decide, by decide, _, ld 4 rfl rfl, ?_⟩
        refine ⟨by decide, by decide, _, ld 4 rfl rfl, ?_⟩
        refine ⟨by decide, by decide, _, ld 4 rfl rfl, ?_⟩
        refine ⟨by decide, by decide, _, ld 4 rfl rfl, ?_⟩
        refine ⟨[0,0,0,0,0], (.q 0 (.q 1 (.q 2 (.q 4 (.q 7 (.q 11 (.q 12 (.q 13 (.q 14 (.q 15 (.q 16 (.q 17 (.q 18 (.q 20 (.q 21 (.q 22 (.q 24 (.q 25 (.q 26 (.one 3 (.one 5 (.q 6 (.one 8 (.q 9 (.q 10 (.q 19 (.q 23 (.q 27 (.q 28 .nil))))))))))))))))))))))))))))), by kernel_rfl, ?_⟩
        refine ⟨by decide, by decide, _, ld 4 rfl rfl, ?_⟩
        (intro z hz; obtain rfl := bv_and hz; clear hz)
        (intro z hz; obtain rfl := bv_not hz; clear hz)
        (intro z hz; obtain rfl := bv_and hz; clear hz)
        (intro z hz; obtain rfl := bv_xor hz; clear hz)
        refine ⟨by omega, by omega, _, ldb0 2 rfl (WV_get (kW_get ht64)), ?_⟩
        refine ⟨by omega, by omega, _, ldb0 3 rfl (WV_get (wArr_get b ht64)), ?_⟩
        (refine ⟨[], _, refrotr_ok _ _ 6 (by omega) (by omega), ?_⟩; rintro _ _ ⟨rfl, rfl⟩)
        (refine ⟨[], _, refrotr_ok _ _ 11 (by omega) (by omega), ?_⟩; rintro _ _ ⟨rfl, rfl⟩)
        (intro z hz; obtain rfl := bv_xor hz; clear hz)
        (refine ⟨[], _, refrotr_ok _ _ 25 (by omega) (by omega), ?_⟩; rintro _ _ ⟨rfl, rfl⟩)
        (intro z hz; obtain rfl := bv_xor hz; clear hz)
        (intro z hz; obtain rfl := bv_add hz; clear hz)
        (intro z hz; obtain rfl := bv_add hz; clear hz)
        (intro z hz; obtain rfl := bv_add hz; clear hz)
        (intro z hz; obtain rfl := bv_add hz; clear hz)
        (refine ⟨[], _, refrotr_ok _ _ 2 (by omega) (by omega), ?_⟩; rintro _ _ ⟨rfl, rfl⟩)
        (refine ⟨[], _, refrotr_ok _ _ 13 (by omega) (by omega), ?_⟩; rintro _ _ ⟨rfl, rfl⟩)
        (intro z hz; obtain rfl := bv_xor hz; clear hz)
        (refine ⟨[], _, refrotr_ok _ _ 22 (by omega) (by omega), ?_⟩; rintro _ _ ⟨rfl, rfl⟩)
        (intro z hz; obtain rfl := bv_xor hz; clear hz)
        (intro z hz; obtain rfl := bv_and hz; clear hz)
        (intro z hz; obtain rfl := bv_and hz; clear hz)
        (intro z hz; obtain rfl := bv_xor hz; clear hz)
        (intro z hz; obtain rfl := bv_and hz; clear hz)
        (intro z hz; obtain rfl := bv_xor hz; clear hz)
        (intro z hz; obtain rfl := bv_add hz; clear hz)
        (intro z hz; obtain rfl := bv_add hz; clear hz)
        refine ⟨by decide, by decide, _, ld 4 rfl rfl, ?_⟩
        (intro z hz; obtain rfl := bv_add hz; clear hz)
        refine ⟨rfl, rfl, 4, rfl, rfl, Nat.le_of_ble_eq_true rfl, ?_⟩
        (intro z hz; obtain rfl : z = ((t + 1 : Nat) : Int) := (by first | (rw [IntKind.wrap_i64] at hz; omega) | (rw [IntKind.wrap_u64] at hz; omega) | omega); clear hz)
        refine ⟨rfl, (t + 1, ⟨_, _, _, _, _, _, _, _⟩), ⟨by omega, ?_⟩, by show 64 - (t + 1) < 64 - t; omega, ⟨rfl, trivial⟩, Ent.refl _, rfl⟩
        rw [rounds_succ, ← hst]
        rfl
      · replace hb := of_decide_eq_false hb
        obtain rfl : t = 64 := by omega
        clear hb
        refine ⟨[none, none, none, none, none, none, none, none, none, none, none, none, none, none, none, none, none, none, none, none, none, some 21, none, none, none, none, none, none, none, none, none, none, none, none, none, none, none, none, none, none, none, none, none, none, none, none, none, none, none, none, none, none, none, none, none, none, none, none, none, none, none, none, none, none, none, none, none, none, none, none, none, none, none, none, none, none, none, none, none, none, none, none, none, none, none, none, none, none, none, none, none, none, none, none, none, none, none, none, none, none, none, none, none, none, none, none, none, none, none, none, none, none, none, none, none, none, none, none, none, none, none, none, none, none, none, none, none, none, none, none, none, none, none, none, none, none, none, none, none, none, none, none, none, none, none, none, none, none, none, none, none, none, none, none, none, none, none, none, none, none, none, none, none, none, none, none, none, none, none, none, none, none, none, none, none, none, none, none, none, none, none, none, none, none, none, none, none, none, none, none, none, none, none, none, none, some 195, some 196, some 197, some 198, some 199, some 200, some 201, some 202, some 203, some 204, some 205, some 206], [21], Nat, fun t => t ≤ 8, fun t => [.int .i64 t], fun t => [.blk g2 193 (WV hw.list), .blk g4 193 (List.replicate 8 (.int .u32 0)), .blk g5 232 (WV kW), .blk g6 232 (WV (wArr b 64)), .blk g11 193 (WV (addArr (S8.list ⟨sa, sb, sc, sd, se, sf, sg, sh⟩) hw.list t))], fun t => 8 - t, 0, Nat.zero_le _, ⟨rfl, trivial⟩, by show Ent _ [_, _, _, _, .blk g11 _ (WV (addArr _ _ 0))]; rw [addArr_zero]; exact Ent.refl _, ?_⟩
        intro i hi js4
        refine ⟨fun hb => ?_, fun hb => ?_⟩
        · replace hb := of_decide_eq_true hb
          have hi8 : i < 8 := by omega
          clear hb
          have hget : (addArr (S8.list ⟨sa, sb, sc, sd, se, sf, sg, sh⟩) hw.list i)[i]? = some ((S8.list ⟨sa, sb, sc, sd, se, sf, sg, sh⟩).getD i 0) := by
            rw [addArr, List.getElem?_append_right (by rw [List.length_take]; omega), List.length_take, List.getElem?_drop, show min i (List.zipWith (· + ·) (S8.list ⟨sa, sb, sc, sd, se, sf, sg, sh⟩) hw.list).length = i by rw [List.length_zipWith, S8.list_length, S8.list_length]; omega, Nat.sub_self, Nat.add_zero]
            exact S8.get_of_lt _ hi8
          refine ⟨[0,0,0,0,0], (.q 0 (.q 1 (.q 2 (.q 3 (.q 4 (.q 5 (.q 6 (.q 7 (.fin 8))))))))), by kernel_rfl, ?_⟩
          refine ⟨by omega, by omega, _, ldb0 4 rfl (WV_get hget), ?_⟩
          refine ⟨by omega, by omega, _, ldb0 0 rfl (WV_get (S8.get_of_lt _ hi8)), ?_⟩
          (intro z hz; obtain rfl := bv_add hz; clear hz)
          refine ⟨by omega, by omega, ?_⟩
          refine ⟨rfl, rfl, 4, nthK_mk rfl (stb0 (by rw [WV_length, addArr_len8 _ _ hi]; omega) ?_)⟩
          (intro z hz; obtain rfl : z = ((i + 1 : Nat) : Int) := (by first | (rw [IntKind.wrap_i64] at hz; omega) | (rw [IntKind.wrap_u64] at hz; omega) | omega); clear hz)
          refine ⟨rfl, i + 1, by show i + 1 ≤ 8; omega, by show 8 - (i + 1) < 8 - i; omega, ⟨rfl, trivial⟩, ?_, rfl⟩
          rw [WV_set, addArr_set8 _ _ hi8]
          exact Ent.refl _
        · replace hb := of_decide_eq_false hb
          obtain rfl : i = 8 := by omega
          clear hb
          have e8 : addArr (S8.list ⟨sa, sb, sc, sd, se, sf, sg, sh⟩) hw.list 8 = (compress hw b).list := by
            rw [addArr_full8, hst, compress]
            simp only [S8.list, S8.add, BitVec.add_comm]
          have hAl : (WV (addArr (S8.list ⟨sa, sb, sc, sd, se, sf, sg, sh⟩) hw.list 8)).length = 8 := by rw [WV_length, addArr_len8 _ _ (Nat.le_refl _)]
          refine ⟨WV (addArr (S8.list ⟨sa, sb, sc, sd, se, sf, sg, sh⟩) hw.list 8), rdPre (ys := []) 4 (by rw [List.append_nil]; rfl), hAl, ?_⟩
          refine ⟨hAl, WV_one _, 1, rfl, rfl, Nat.le_of_eq (by show 0 + (WV _).length = _; rw [hAl]; rfl), ?_⟩
          refine ⟨setRange (List.replicate 8 (.int .u32 0)) 0 (WV (addArr (S8.list ⟨sa, sb, sc, sd, se, sf, sg, sh⟩) hw.list 8)), rdPre (ys := []) 1 (by rw [List.append_nil]; rfl), by rw [length_setRange]; rfl, _, Ent.drop [] [_, _, _, _, _], ?_, rfl⟩
          rw [setRange_all (by rw [hAl]; rfl), e8]
          rfl

end Go.Proofs.YtoddabjacjkjbaaDoor

namespace Go.Proofs.YtoddabjacjkjbaaDoor
open Go Go.RowKit

/-- What the memory that is handed back says may be used. -/
theorem Fn.post {P : Program} {f : FuncId} {args : List Value} {h : Hp} {R : Rd} {Post Post' : Value → Hp → Prop} (c : Fn P f args h R Post) (hq : ∀ v h' w, Post v h' → Own h' w → Post' v h') : Fn P f args h R Post' :=
  ⟨c.1, fun w o r a => (c.2 w o r a).mono fun _ w' ⟨v, h', he, hp, t⟩ => ⟨v, h', he, hq v h' w' hp t.own, t⟩⟩
/-- Bytes of the call's own, in a new slice. -/
def OwnB0 (v : Value) (bs : List UInt8) (h : Hp) : Prop :=
  ∃ A k cap xs, v = .slice A k cap ∧ h = [.row A k cap 5 1 xs (0, 0)] ∧ k = bs.length ∧ xs = BV bs ∧ grow k A
def OwnBs (v : Value) (bs : List UInt8) (h : Hp) : Prop :=
  ∃ A k cap xs, v = .slice A k cap ∧ h = [.row A k cap 5 1 xs (0, 0)] ∧ k = bs.length ∧ xs = BV bs ∧ grow k A ∧ k ≤ cap
theorem OwnB0.caps {v : Value} {bs : List UInt8} {h : Hp} {w : World} (o : OwnB0 v bs h) (hw : Own h w) : OwnBs v bs h := by
  obtain ⟨A, k, cap, xs, rfl, rfl, hk, hxs, hg⟩ := o
  exact ⟨A, k, cap, xs, rfl, rfl, hk, hxs, hg, (row_cap hw 0 rfl).1⟩

set_option maxRecDepth 100000 in
theorem Pad_ok0 (R : Rd) (x : List UInt8) (v0 : Value) (hx : x.length ≤ 140737488000000) (hs : BsR R v0 x) :
    Fn Tryd.prog 140 [v0] [] R (fun v h => OwnB0 v (x ++ padOf x.length) h) := by
  obtain ⟨A0, cap0, rfl⟩ := hs.form
  have hML := maxLen_eq
  have hpz := padZ_lt x.length
  refine fn_of_vc mixed tabOk Tryd.func140 rfl (by kernel_rfl) (Nat.le_of_ble_eq_true rfl) ?_
  refine ⟨rfl, fun g => ?_⟩
  refine ⟨BV x, (BV_length x).trans (Nat.mul_one _).symm, (hs.rh _).src, BV_one _, by show (_ + _) * 1 ≤ _; omega, by omega, .inr ⟨0, rfl, rfl, rfl, rfl, rfl, rfl, fun A1 cap1 hg1 => ?_⟩⟩
  refine ⟨rfl, fun g2 => ?_⟩
  refine ⟨BV [128], rfl, rdRow 1 rfl, rfl, by show (_ + _) * 1 ≤ _; omega, by omega, .inr ⟨0, rfl, rfl, rfl, rfl, rfl, rfl, fun A2 cap2 hg2 => ?_⟩⟩
  refine ⟨[none, none, none, some 3, none, none, none, none, none, none, none, some 11, some 12, some 13, some 14, some 15, some 16, some 17], [3], Option Addr × Nat × Nat, fun ⟨A, cap, k⟩ => grow (x.length + 1 + k) A ∧ k ≤ padZ x.length, fun ⟨A, cap, k⟩ => [.slice A (x.length + 1 + k) cap],
    fun ⟨A, cap, k⟩ => [.row A (x.length + 1 + k) cap 5 1 (BV (x ++ 128 :: List.replicate k 0)) (0, 0)], fun ⟨A, cap, k⟩ => padZ x.length - k,
    (A2, cap2, 0), ⟨by rw [Nat.zero_add] at hg2; exact hg2, Nat.zero_le _⟩, ⟨by show Value.slice A2 (0 + x.length + 1) cap2 = _; rw [Nat.zero_add], trivial⟩, ?_, ?_⟩
  · show Ent [.row A2 (0 + x.length + 1) cap2 _ 1 ([] ++ BV x ++ BV [128]) _, _] [.row A2 (x.length + 1 + 0) cap2 _ 1 (BV (x ++ [128])) _]
    rw [Nat.zero_add, List.nil_append, ← BV_append]
    exact Ent.drop [_] [_]
  clear hg1 hg2
  rintro ⟨A, cap, k⟩ ⟨hg, hk⟩ js
  refine ⟨by decide, ?_⟩
  intro z hz; obtain rfl : z = (((x.length + 1 + k) % 64 : Nat) : Int) := hz
  refine ⟨fun hb => ?_, fun hb => ?_⟩
  · replace hb := of_decide_eq_false (Bool.not_eq_true' _ ▸ hb)
    have hlt : k < padZ x.length := by unfold padZ at hk hpz ⊢; omega
    clear hb
    refine ⟨rfl, fun g5 => ?_⟩
    refine ⟨BV [0], rfl, rdRow 1 rfl, rfl, by show (_ + _) * 1 ≤ _; omega, by omega, .inr ⟨0, rfl, rfl, rfl, rfl, rfl, rfl, fun A' cap' hg' => ?_⟩⟩
    refine ⟨rfl, (A', cap', k + 1), ⟨hg', hlt⟩, by show padZ x.length - (k + 1) < padZ x.length - k; omega, ⟨rfl, trivial⟩, ?_, rfl⟩
    have e : BV (x ++ 128 :: List.replicate k 0) ++ BV [0] = BV (x ++ 128 :: List.replicate (k + 1) 0) := by
      rw [← BV_append, List.append_assoc, List.cons_append, ← List.replicate_succ' (n := k)]
    show Ent [.row A' (x.length + 1 + k + 1) cap' _ 1 (BV (x ++ 128 :: List.replicate k 0) ++ BV [0]) _, _] _
    rw [e]
    exact Ent.drop [_] [_]
  · replace hb := of_decide_eq_true (Bool.not_eq_false' _ ▸ hb)
    have hkz : k = padZ x.length := by unfold padZ at hk hpz ⊢; omega
    subst hkz
    clear hb
    (intro z hz; obtain rfl : z = ((x.length : Nat) : Int) := (by first | (rw [IntKind.wrap_i64] at hz; omega) | (rw [IntKind.wrap_u64] at hz; omega) | omega); clear hz)
    (intro z hz; obtain rfl : z = ((8 * x.length : Nat) : Int) := (by first | (rw [IntKind.wrap_i64] at hz; omega) | (rw [IntKind.wrap_u64] at hz; omega) | omega); clear hz)
    refine ⟨[none, none, none, some 3, none, some 5, none, none, none, none, none, none, none, none, none, none, none, none, none, none, none, none, some 22, some 23, some 24, some 25, some 26, some 27, some 28, some 29, some 30, some 31, some 32, some 33], [3, 5], Option Addr × Nat × Nat, fun ⟨A, cap, j⟩ => grow (x.length + 1 + padZ x.length + j) A ∧ j ≤ 8, fun ⟨A, cap, j⟩ => [.slice A (x.length + 1 + padZ x.length + j) cap, .int .i64 (7 - (j : Int))],
      fun ⟨A, cap, j⟩ => [.row A (x.length + 1 + padZ x.length + j) cap 5 1 (BV (x ++ 128 :: (List.replicate (padZ x.length) 0 ++ (be64 (8 * x.length)).take j))) (0, 0)], fun ⟨A, cap, j⟩ => 8 - j,
      (A, cap, 0), ⟨hg, Nat.zero_le _⟩, ⟨rfl, rfl, trivial⟩, by simp only [List.take_zero, List.append_nil]; exact Ent.refl _, ?_⟩
    clear hg hk
    rintro ⟨A, cap, j⟩ ⟨hg, hj⟩ js2
    refine ⟨fun hb => ?_, fun hb => ?_⟩
    · replace hb := of_decide_eq_true hb
      have hj8 : j < 8 := by omega
      clear hb
      (intro z hz; obtain rfl : z = ((56 - 8 * j : Nat) : Int) := (by first | (rw [IntKind.wrap_i64] at hz; omega) | (rw [IntKind.wrap_u64] at hz; omega) | omega); clear hz)
      refine ⟨by omega, ?_⟩
      intro z hz
      obtain rfl := u64_shr (by omega) hz
      clear hz
      intro z hz
      obtain rfl := u8_of hz
      clear hz
      refine ⟨rfl, fun g5 => ?_⟩
      refine ⟨BV [UInt8.ofNat (8 * x.length / 2 ^ (56 - 8 * j))], rfl, rdRow 1 rfl, rfl, by show (_ + _) * 1 ≤ _; omega, by omega, .inr ⟨0, rfl, rfl, rfl, rfl, rfl, rfl, fun A' cap' hg' => ?_⟩⟩
      intro z hz
      obtain rfl : z = 7 - ((j + 1 : Nat) : Int) := by rw [IntKind.wrap_i64] at hz; omega
      clear hz
      refine ⟨rfl, (A', cap', j + 1), ⟨hg', hj8⟩, by show 8 - (j + 1) < 8 - j; omega, ⟨rfl, rfl, trivial⟩, ?_, rfl⟩
      have e : BV (x ++ 128 :: (List.replicate (padZ x.length) 0 ++ (be64 (8 * x.length)).take j)) ++ BV [UInt8.ofNat (8 * x.length / 2 ^ (56 - 8 * j))] = BV (x ++ 128 :: (List.replicate (padZ x.length) 0 ++ (be64 (8 * x.length)).take (j + 1))) := by
        rw [← BV_append, List.take_add_one, be64_take hj8]; simp
      show Ent [.row A' (x.length + 1 + padZ x.length + j + 1) cap' _ 1 (_ ++ BV [UInt8.ofNat (8 * x.length / 2 ^ (56 - 8 * j))]) _, _] _
      rw [e]
      exact Ent.drop [_] [_]
    · replace hb := of_decide_eq_false hb
      obtain rfl : j = 8 := by omega
      clear hb
      have hpad : 128 :: (List.replicate (padZ x.length) 0 ++ (be64 (8 * x.length)).take 8) = padOf x.length := by
        rw [padOf, Nat.mod_eq_of_lt (show 8 * x.length < 2 ^ 64 by omega)]; rfl
      refine ⟨_, Ent.refl _, A, _, cap, _, rfl, rfl, ?_, ?_, hg⟩
      · rw [List.length_append, padOf_length]; omega
      · rw [hpad]

theorem Pad_ok (R : Rd) (x : List UInt8) (v0 : Value) (hx : x.length ≤ 140737488000000) (hs : BsR R v0 x) :
    Fn Tryd.prog 140 [v0] [] R (fun v h => OwnBs v (x ++ padOf x.length) h) := (Pad_ok0 R x v0 hx hs).post fun _ _ _ h o => h.caps o

theorem setRange_S8 (s t : S8) : setRange (WV s.list) 0 (WV t.list) = WV t.list := setRange_all rfl

theorem block_take {y : List UInt8} {s : S8} {n : Nat} (hn : 64 * (n + 1) ≤ y.length) : blocks (n + 1) s y = compress (blocks n s y) ((y.drop (64 * n)).take 64) := by
  have h1 : y = y.take (64 * n) ++ ((y.drop (64 * n)).take 64 ++ y.drop (64 * n + 64)) := by
    rw [← List.drop_drop, List.take_append_drop, List.take_append_drop]
  have hl : (y.take (64 * n)).length = 64 * n := by rw [List.length_take]; omega
  have hl2 : ((y.drop (64 * n)).take 64).length = 64 := by rw [List.length_take, List.length_drop]; omega
  have e1 : blocks (n + 1) s y = blocks 1 (blocks n s (y.take (64 * n))) ((y.drop (64 * n)).take 64 ++ y.drop (64 * n + 64)) := by
    conv => lhs; rw [h1]
    rw [blocks_append n 1 s _ _ (by omega)]
  have e2 : blocks n s y = blocks n s (y.take (64 * n)) := by
    conv => lhs; rw [h1]
    rw [blocks_take n s _ _ (by rw [hl]; exact Nat.le_refl _)]
  rw [e1, e2, blocks, blocks, List.take_append_of_le_length (by rw [hl2]; exact Nat.le_refl _), List.take_of_length_le (show ((y.drop (64 * n)).take 64).length ≤ 64 by rw [hl2]; exact Nat.le_refl _)]

set_option maxRecDepth 100000 in
set_option maxHeartbeats 1000000 in
theorem refSum_ok (R : Rd) (x : List UInt8) (v0 : Value) (hx : x.length ≤ 140737488000000) (hs : BsR R v0 x) :
    Fn Tryd.prog 98 [v0] [] R (fun v h => v = .string ⟨⟨sha x⟩⟩ ∧ h = []) := by
  obtain ⟨A0, cap0, rfl⟩ := hs.form
  have hML := maxLen_eq
  refine fn_of_vc mixed tabOk Tryd.func98 rfl (by kernel_rfl) (Nat.le_of_ble_eq_true rfl) ?_
  intro g3
  refine ⟨rfl, rfl, 0, rfl, rfl, Nat.le_of_ble_eq_true rfl, ?_⟩
  refine ⟨[], _, Pad_ok _ x _ hx (hs.rh _), ?_⟩
  rintro _ _ ⟨A, k, cap, xs, rfl, rfl, hk, hxs, hg, hkc⟩
  have hpl : (x ++ padOf x.length).length = x.length + (9 + padZ x.length) := by rw [List.length_append, padOf_length]
  have hpm := pad_mod x.length
  have hpz := padZ_lt x.length
  refine ⟨[none, none, none, none, none, some 5, none, none, none, none, none, some 11, some 12, some 13, some 14, some 15, some 16, some 17, some 18, some 19, some 20, some 21, some 22, some 23], [5], Nat, fun n => 64 * n ≤ k, fun n => [.int .i64 (64 * n : Nat)], fun n => [.blk g3 193 (WV (blocks n shaH0 (x ++ padOf x.length)).list), .row A k cap 5 1 xs (0, 0)], fun n => k - 64 * n, 0, Nat.zero_le _, ⟨rfl, trivial⟩, Ent.refl _, ?_⟩
  intro n hn js
  refine ⟨fun hb => ?_, fun hb => ?_⟩
  · replace hb := of_decide_eq_true hb
    have hlt : 64 * n < k := by omega
    have hle : 64 * (n + 1) ≤ k := by omega
    clear hb
    refine ⟨[0,0], (.q 0 (.q 1 (.q 2 (.q 3 (.q 4 (.q 5 (.one 6 (.fin 7)))))))), by kernel_rfl, ?_⟩
    refine ⟨WV (blocks n shaH0 (x ++ padOf x.length)).list, rdPre (ys := []) 0 (by rw [List.append_nil]; rfl), rfl, ?_⟩
    (intro z hz; obtain rfl : z = ((64 * n + 64 : Nat) : Int) := (by first | (rw [IntKind.wrap_i64] at hz; omega) | (rw [IntKind.wrap_u64] at hz; omega) | omega); clear hz)
    refine ⟨64 * n, 64 * n + 64, rfl, rfl, by omega, by omega, ?_⟩
    have hb1 : BsR (RH R [.blk g3 193 (WV (blocks n shaH0 (x ++ padOf x.length)).list), .row A k cap 5 1 xs (0, 0)]) (.slice A k cap) (x ++ padOf x.length) := BsR.own 1 rfl hk hxs hg
    have hb2 := hb1.sub (l := 64 * n) (h := 64 * n + 64) (by omega) (by omega) (by omega)
    have e64 : 64 * n + 64 - 64 * n = 64 := by omega
    rw [e64] at hb2 ⊢
    have hbl : (((x ++ padOf x.length).drop (64 * n)).take 64).length = 64 := by rw [List.length_take, List.length_drop]; omega
    refine ⟨[], _, refBlock_ok _ _ _ _ _ hbl (hb2.rh _), ?_⟩
    rintro _ _ ⟨rfl, rfl⟩
    refine ⟨rfl, WV_one _, 0, rfl, rfl, Nat.le_of_ble_eq_true rfl, ?_⟩
    (intro z hz; obtain rfl : z = ((64 * (n + 1) : Nat) : Int) := (by first | (rw [IntKind.wrap_i64] at hz; omega) | (rw [IntKind.wrap_u64] at hz; omega) | omega); clear hz)
    refine ⟨rfl, n + 1, hle, by show k - 64 * (n + 1) < k - 64 * n; omega, ⟨rfl, trivial⟩, ?_, rfl⟩
    show Ent [.blk g3 _ (setRange (WV (blocks n shaH0 (x ++ padOf x.length)).list) 0 (WV (compress _ _).list)), _] [.blk g3 _ (WV (blocks (n + 1) shaH0 (x ++ padOf x.length)).list), _]
    rw [setRange_S8, ← block_take (by omega)]
    exact Ent.refl _
  · replace hb := of_decide_eq_false hb
    have hnk : 64 * n = k := by omega
    clear hb
    have hq : n = (x ++ padOf x.length).length / 64 := by omega
    subst hq
    refine ⟨rfl, fun g5 => ?_⟩
    obtain ⟨s, hsE⟩ : ∃ s, s = blocks ((x ++ padOf x.length).length / 64) shaH0 (x ++ padOf x.length) := ⟨_, rfl⟩
    refine ⟨[none, none, none, none, none, none, some 6, some 7, none, none, none, none, none, none, none, none, none, none, none, none, none, none, none, none, none, some 25, some 26, some 27, some 28, some 29, some 30, some 31, some 32, some 33, some 34, some 35, some 36, some 37, some 38, some 39, some 40, some 41, some 42, some 43, some 44, some 45, some 46, some 47, some 48, some 49, some 50], [7, 6], Nat × Option Addr × Nat, fun ⟨i, A, cap⟩ => i ≤ 8 ∧ grow (4 * i) A, fun ⟨i, A, cap⟩ => [.int .i64 i, .slice A (4 * i) cap],
      fun ⟨i, A2, cap2⟩ => [.blk g3 193 (WV s.list), .row A k cap 5 1 xs (0, 0), .row A2 (4 * i) cap2 5 1 (BV (dig s i)) (0, 0)],
      fun ⟨i, _, _⟩ => 8 - i, (0, some ⟨g5, 0, .none⟩, 0), ⟨Nat.zero_le _, .inl rfl⟩, ⟨rfl, rfl, trivial⟩, by rw [hsE]; exact Ent.refl _, ?_⟩
    rintro ⟨i, A2, cap2⟩ ⟨hi, hg2⟩ js3
    refine ⟨fun hb => ?_, fun hb => ?_⟩
    · replace hb := of_decide_eq_true hb
      have hi8 : i < 8 := by omega
      clear hb
      refine ⟨[0,0], (.q 0 (.q 1 (.q 2 (.q 3 (.q 4 (.q 5 (.q 6 (.q 7 (.q 8 (.q 9 (.q 10 (.q 11 (.q 12 (.q 13 (.q 14 (.q 15 (.q 16 (.q 17 (.q 18 (.q 19 (.one 20 (.one 21 (.q 22 .nil))))))))))))))))))))))), by kernel_rfl, ?_⟩
      refine ⟨by omega, by omega, _, ldb0 0 rfl (WV_get (S8.get_of_lt s hi8)), ?_⟩
      (refine ⟨by decide, ?_⟩; intro z hz; obtain rfl := bv_shr (n := 24) (by omega) hz; clear hz)
      intro z hz; obtain rfl := bv_u8 hz; clear hz
      refine ⟨by omega, by omega, _, ldb0 0 rfl (WV_get (S8.get_of_lt s hi8)), ?_⟩
      (refine ⟨by decide, ?_⟩; intro z hz; obtain rfl := bv_shr (n := 16) (by omega) hz; clear hz)
      intro z hz; obtain rfl := bv_u8 hz; clear hz
      refine ⟨by omega, by omega, _, ldb0 0 rfl (WV_get (S8.get_of_lt s hi8)), ?_⟩
      (refine ⟨by decide, ?_⟩; intro z hz; obtain rfl := bv_shr (n := 8) (by omega) hz; clear hz)
      intro z hz; obtain rfl := bv_u8 hz; clear hz
      refine ⟨by omega, by omega, _, ldb0 0 rfl (WV_get (S8.get_of_lt s hi8)), ?_⟩
      intro z hz; obtain rfl := bv_u8' hz; clear hz
      refine ⟨rfl, fun g6 => ?_⟩
      refine ⟨BV (s.list.getD i 0).bytes, rfl, rdRow 1 rfl, BV_one _, by show (_ + _) * 1 ≤ _; omega, by omega, .inr ⟨0, rfl, rfl, rfl, rfl, rfl, rfl, fun A' cap' hg' => ?_⟩⟩
      (intro z hz; obtain rfl : z = ((i + 1 : Nat) : Int) := (by first | (rw [IntKind.wrap_i64] at hz; omega) | (rw [IntKind.wrap_u64] at hz; omega) | omega); clear hz)
      refine ⟨rfl, (i + 1, A', cap'), ⟨hi8, hg'⟩, by show 8 - (i + 1) < 8 - i; omega, ⟨rfl, rfl, trivial⟩, ?_, rfl⟩
      show Ent [_, _, .row A' (4 * i + 4) cap' _ 1 (BV (dig s i) ++ BV (s.list.getD i 0).bytes) _, _] [_, _, .row A' (4 * (i + 1)) cap' _ 1 (BV (dig s (i + 1))) _]
      rw [← BV_append, dig_succ s hi8]
      exact Ent.drop [_, _, _] [_]
    · replace hb := of_decide_eq_false hb
      obtain rfl : i = 8 := by omega
      clear hb
      have hdl := dig_length s 8 (Nat.le_refl _)
      refine ⟨dig s 8, hdl, fun j b hj => (BsR.own (bs := dig s 8) 2 rfl hdl.symm rfl hg2).at_ hj, ?_⟩
      refine ⟨_, Ent.drop [] [_, _, _], ?_, rfl⟩
      rw [dig_full, hsE]
      rfl

theorem cat_take {l : List (List UInt8)} {i : Nat} (h : i < l.length) : cat (l.take (i + 1)) = cat (l.take i) ++ l.getD i [] := by
  rw [List.take_add_one, List.getD_eq_getElem?_getD, List.getElem?_eq_getElem h]
  show List.flatten (l.take i ++ [l[i]]) = List.flatten (l.take i) ++ l[i]
  rw [List.flatten_append]; simp
theorem cat_take_le {l : List (List UInt8)} {i : Nat} : (cat (l.take i)).length ≤ (cat l).length := by
  have : cat l = cat (l.take i) ++ cat (l.drop i) := by simp only [cat]; rw [← List.flatten_append, List.take_append_drop]
  rw [this, List.length_append]; omega

theorem refJoin_ok (R : Rd) (l : List (List UInt8)) (v0 : Value) (hx : (cat l).length ≤ 140737488000000) (hl : l.length ≤ 1152921504606846976) (hs : SsR R v0 l) :
    Fn Tryd.prog 176 [v0] [] R (fun v h => v = .string ⟨⟨sha (cat l)⟩⟩ ∧ h = []) := by
  obtain ⟨A, cap, rfl⟩ := hs.form
  have hML := maxLen_eq
  refine fn_of_vc mixed tabOk Tryd.func176 rfl (by kernel_rfl) (Nat.le_of_ble_eq_true rfl) ?_
  refine ⟨[none, none, none, some 3, none, some 5, none, none, some 8, some 9, some 10, some 11, some 12, some 13, some 14, some 15], [8, 3], Nat, fun i => i ≤ l.length, fun i => [.int .i64 i, .string ⟨⟨cat (l.take i)⟩⟩], fun _ => [], fun i => l.length - i, 0, Nat.zero_le _, ⟨rfl, rfl, trivial⟩, Ent.refl _, ?_⟩
  intro i hi js
  refine ⟨fun hb => ?_, fun hb => ?_⟩
  · replace hb := of_decide_eq_true hb
    have hil : i < l.length := by omega
    clear hb
    obtain ⟨a, ha, hr⟩ := hs.one hil
    refine ⟨by omega, by omega, a, ha, _, .inl hr, ?_⟩
    have hcat := cat_take hil
    have hlen : (cat (l.take i)).length + (l.getD i []).length ≤ (cat l).length := by
      rw [← List.length_append, ← hcat]; exact cat_take_le
    refine ⟨show (cat (l.take i)).length + (l.getD i []).length ≤ maxLen by omega, ?_⟩
    (intro z hz; obtain rfl : z = ((i + 1 : Nat) : Int) := (by first | (rw [IntKind.wrap_i64] at hz; omega) | (rw [IntKind.wrap_u64] at hz; omega) | omega); clear hz)
    refine ⟨rfl, i + 1, hil, by show l.length - (i + 1) < l.length - i; omega, ⟨rfl, by rw [hcat]; rfl, trivial⟩, Ent.refl _, rfl⟩
  · replace hb := of_decide_eq_false hb
    obtain rfl : i = l.length := by omega
    clear hb
    refine ⟨show (cat (l.take l.length)).length ≤ maxLen by rw [List.take_length]; omega, fun g2 cap2 => ?_⟩
    refine ⟨[], _, refSum_ok _ (cat (l.take l.length)) _ (by rw [List.take_length]; exact hx) (BsR.own 0 rfl rfl rfl (.inr ⟨g2, rfl⟩)), ?_⟩
    rintro _ _ ⟨rfl, rfl⟩
    refine ⟨_, Ent.drop [] [_], ?_, rfl⟩
    rw [List.take_length]; rfl

end Go.Proofs.YtoddabjacjkjbaaDoor
