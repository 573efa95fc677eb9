/-
  The contract of sha256.process: one block.
-/
import Derived.Test.YtbgfnofjnbpdgaaDoorShb
namespace Go.Proofs.YtbgfnofjnbpdgaaDoor
open Go Go.RowKit

theorem rounds_succ (w : List W32) (s : S8) (t : Nat) : rounds w s (t + 1) = rnd (rounds w s t) (shaK_at t) (w.getD t 0) := rfl

/-- The words of a state while the last loop adds to them. -/
def addArr (x y : List W32) (i : Nat) : List W32 := (List.zipWith (· + ·) x y).take i ++ x.drop i
theorem addArr_zero (x y : List W32) : addArr x y 0 = x := by simp [addArr]
theorem addArr_set {x y : List W32} (hl : x.length = y.length) {i : Nat} {a b : W32} (ha : x[i]? = some a) (hb : y[i]? = some b) : (addArr x y i).set i (a + b) = addArr x y (i + 1) := by
  have hi := (List.getElem?_eq_some_iff.1 ha).1
  have hz : (List.zipWith (· + ·) x y).length = x.length := by simp [hl]
  have hg : (List.zipWith (· + ·) x y)[i]? = some (a + b) := by rw [List.getElem?_zipWith, ha, hb]
  rw [addArr, addArr, List.set_append_right _ _ (by simp; omega), List.take_add_one, hg]
  have h0 : i - (List.take i (List.zipWith (· + ·) x y)).length = 0 := by rw [List.length_take]; omega
  have hd : x.drop i = a :: x.drop (i + 1) := by
    rw [List.drop_eq_getElem_cons hi]
    congr 1
    rw [List.getElem?_eq_getElem hi] at ha; exact Option.some.inj ha
  rw [h0, hd, List.set_cons_zero]
  simp
theorem addArr_length {x y : List W32} (hl : x.length = y.length) {i : Nat} (hi : i ≤ x.length) : (addArr x y i).length = x.length := by
  simp [addArr]; omega
theorem addArr_full {x y : List W32} (hl : x.length = y.length) : addArr x y x.length = List.zipWith (· + ·) x y := by
  have hz : (List.zipWith (· + ·) x y).length = x.length := by simp [hl]
  rw [addArr, List.drop_length, List.append_nil, ← hz, List.take_length]

theorem S8.list_length (s : S8) : s.list.length = 8 := rfl
theorem S8.get_of_lt (s : S8) {i : Nat} (h : i < 8) : s.list[i]? = some (s.list.getD i 0) := by
  rw [List.getD_eq_getElem?_getD, List.getElem?_eq_getElem (by rw [S8.list_length]; exact h)]; rfl

theorem zip_add (x y : S8) : List.zipWith (· + ·) x.list y.list = (x.add y).list := rfl

theorem addArr_len8 (x y : S8) {i : Nat} (h : i ≤ 8) : (addArr x.list y.list i).length = 8 := addArr_length (x := x.list) (y := y.list) rfl h
theorem addArr_set8 (x y : S8) {i : Nat} (h : i < 8) : (addArr x.list y.list i).set i (x.list.getD i 0 + y.list.getD i 0) = addArr x.list y.list (i + 1) := addArr_set (x := x.list) (y := y.list) rfl (x.get_of_lt h) (y.get_of_lt h)
theorem addArr_full8 (x y : S8) : addArr x.list y.list 8 = (x.add y).list := (addArr_full (x := x.list) (y := y.list) rfl).trans (zip_add x y)

/-- a state's cells -/
def stC (words : List W32) (buf : List Value) (len : Nat) : List Value := WV words ++ (buf ++ [.int .i64 len])
theorem stC_length {words : List W32} {buf : List Value} {len : Nat} : (stC words buf len).length = words.length + (buf.length + 1) := by simp [stC, WV_length]
theorem stC_set {words : List W32} {buf : List Value} {len i : Nat} {x : W32} (h : i < words.length) : (stC words buf len).set i (.int .u32 x.toNat) = stC (words.set i x) buf len := by
  rw [stC, List.set_append_left _ _ (by rw [WV_length]; exact h), WV_set]; rfl

set_option maxRecDepth 100000 in
set_option maxHeartbeats 8000000 in
theorem process_ok (R : Rd) (hG : ShaG R) (g : Nat) (hw : S8) (buf : List Value) (len : Nat) (b : List UInt8) (A : Option Addr) (cap : Nat) (hbuf : buf.length = 64) (hbl : b.length = 64) (hcap : 64 ≤ cap) (hs : BsR (RH R [.blk g 166 (stC hw.list buf len)]) (.slice A 64 cap) b) :
    Fn Tryd.prog 110 [.pointer (some ⟨g, 0, .none⟩), .slice A 64 cap] [.blk g 166 (stC hw.list buf len)] R (fun _ h => h = [.blk g 166 (stC (compress hw b).list buf len)]) := by
  refine fn_of_vc mixed tabOk Tryd.func110 rfl (by kernel_rfl) (Nat.le_of_ble_eq_true rfl) ?_
  intro g4
  refine ⟨[none, none, none, none, none, some 5, some 6, some 7, some 8, some 9, some 10, none, none, none, none, none, none, none, none, none, none, none, none, none, none, none, none, some 27, some 28, some 29, some 30, some 31, some 32, some 33, some 34, some 35, some 36, some 37, some 38, some 39, some 40, some 41, some 42, some 43, some 44, some 45, some 46, some 47, some 48, some 49, some 50, some 51, some 52, some 53, some 54, some 55, some 56, some 57, some 58, some 59, some 60, some 61, some 62, some 63, some 64, some 65, some 66, some 67, some 68, some 69, some 70, some 71, some 72, some 73, some 74, some 75, some 76, some 77, some 78, some 79, some 80, some 81, some 82, some 83, some 84, some 85, some 86, some 87, some 88, some 89, some 90, some 91, some 92, some 93, some 94, some 95, some 96, some 97, some 98, some 99, some 100, some 101, some 102], [27], Nat, fun t => t ≤ 64, fun t => [.int .i64 t], fun t => [.blk g 166 (stC hw.list buf len), .blk g4 153 (WV (wArr b t))], fun t => 64 - t, 0, Nat.zero_le _, ⟨rfl, trivial⟩, by show Ent [_, HA.blk g4 _ (List.replicate 64 _)] _; rw [wArr_zero b]; exact Ent.refl _, ?_⟩
  intro t ht js
  refine ⟨fun hb => ?_, fun hb => ?_⟩
  · replace hb := of_decide_eq_true hb
    have ht64 : t < 64 := by omega
    clear hb
    refine ⟨fun hb => ?_, fun hb => ?_⟩
    · replace hb := of_decide_eq_true hb
      have hlt : t < 16 := by omega
      clear hb
      (intro z hz; obtain rfl : z = ((4 * t : Nat) : Int) := (by first | (rw [IntKind.wrap_i64] at hz; omega) | (rw [IntKind.wrap_u64] at hz; omega) | omega); clear hz)
      (intro z hz; obtain rfl : z = ((4 * t : Nat) : Int) := (by first | (rw [IntKind.wrap_i64] at hz; omega) | (rw [IntKind.wrap_u64] at hz; omega) | omega); clear hz)
      (intro z hz; obtain rfl : z = ((4 * t + 4 : Nat) : Int) := (by first | (rw [IntKind.wrap_i64] at hz; omega) | (rw [IntKind.wrap_u64] at hz; omega) | omega); clear hz)
      refine ⟨4 * t, 4 * t + 4, rfl, rfl, by omega, by omega, ?_⟩
      have hs2 : BsR (RH R [.blk g 166 (stC hw.list buf len), .blk g4 153 (WV (wArr b t))]) (.slice A 64 cap) b := hs.mono fun _ _ => rh_cons
      obtain ⟨a6, ha6, hr6⟩ := hs2.four (by omega) (l := 4 * t) (by omega)
      refine ⟨[0,0], (.q 0 (.q 1 (.q 2 (.q 3 (.q 4 (.q 5 (.q 6 (.q 7 (.q 8 (.q 9 (.q 10 (.q 11 (.q 12 (.q 13 (.q 14 (.q 15 (.q 16 (.q 17 (.q 18 (.q 19 (.q 20 (.q 21 (.q 22 (.q 23 (.fin 24))))))))))))))))))))))))), by kernel_rfl, ?_⟩
      refine ⟨by decide, by omega, a6, ha6, _, hr6 0 (by omega), ?_⟩
      (intro z hz; obtain rfl := bv_byte hz; clear hz)
      (refine ⟨by decide, ?_⟩; intro z hz; obtain rfl := bv_shl (n := 24) (by omega) hz; clear hz)
      refine ⟨by decide, by omega, a6, ha6, _, hr6 1 (by omega), ?_⟩
      (intro z hz; obtain rfl := bv_byte hz; clear hz)
      (refine ⟨by decide, ?_⟩; intro z hz; obtain rfl := bv_shl (n := 16) (by omega) hz; clear hz)
      (intro z hz; obtain rfl := bv_or hz; clear hz)
      refine ⟨by decide, by omega, a6, ha6, _, hr6 2 (by omega), ?_⟩
      (intro z hz; obtain rfl := bv_byte hz; clear hz)
      (refine ⟨by decide, ?_⟩; intro z hz; obtain rfl := bv_shl (n := 8) (by omega) hz; clear hz)
      (intro z hz; obtain rfl := bv_or hz; clear hz)
      refine ⟨by decide, by omega, a6, ha6, _, hr6 3 (by omega), ?_⟩
      (intro z hz; obtain rfl := bv_byte hz; clear hz)
      (intro z hz; obtain rfl := bv_or hz; clear hz)
      refine ⟨by omega, by omega, ?_⟩
      refine ⟨rfl, rfl, 1, nthK_mk rfl (stb0 (by rw [WV_length, wArr_length b ht]; exact ht64) ?_)⟩
      (intro z hz; obtain rfl : z = ((t + 1 : Nat) : Int) := (by first | (rw [IntKind.wrap_i64] at hz; omega) | (rw [IntKind.wrap_u64] at hz; omega) | omega); clear hz)
      refine ⟨rfl, t + 1, by show t + 1 ≤ 64; omega, by show 64 - (t + 1) < 64 - t; omega, ⟨rfl, trivial⟩, ?_, rfl⟩
      rw [WV_set, wArr_set b ht64 (by rw [if_pos hlt]; rfl)]
      exact Ent.refl _
    · replace hb := of_decide_eq_false hb
      have hlt : ¬ t < 16 := by omega
      clear hb
      refine ⟨[0,0], lexT 0 10, by kernel_rfl, ?_⟩
      (intro z hz; obtain rfl : z = ((t - 2 : Nat) : Int) := (by first | (rw [IntKind.wrap_i64] at hz; omega) | (rw [IntKind.wrap_u64] at hz; omega) | omega); clear hz)
      refine ⟨by omega, by omega, _, ldb0 1 rfl (WV_get (wArr_get b (by omega))), ?_⟩
      (intro z hz; obtain rfl : z = ((t - 15 : Nat) : Int) := (by first | (rw [IntKind.wrap_i64] at hz; omega) | (rw [IntKind.wrap_u64] at hz; omega) | omega); clear hz)
      refine ⟨by omega, by omega, _, ldb0 1 rfl (WV_get (wArr_get b (by omega))), ?_⟩
      (refine ⟨[], _, RotateLeft32_ok _ _ (-17) 17 (by omega) (by omega) (by decide +kernel), ?_⟩; rintro _ _ ⟨rfl, rfl⟩)
      (refine ⟨[], _, RotateLeft32_ok _ _ (-19) 19 (by omega) (by omega) (by decide +kernel), ?_⟩; rintro _ _ ⟨rfl, rfl⟩)
      (intro z hz; obtain rfl := bv_xor hz; clear hz)
      (refine ⟨by decide, ?_⟩; intro z hz; obtain rfl := bv_shr (n := 10) (by omega) hz; clear hz)
      (intro z hz; obtain rfl := bv_xor hz; clear hz)
      (refine ⟨[], _, RotateLeft32_ok _ _ (-7) 7 (by omega) (by omega) (by decide +kernel), ?_⟩; rintro _ _ ⟨rfl, rfl⟩)
      (refine ⟨[], _, RotateLeft32_ok _ _ (-18) 18 (by omega) (by omega) (by decide +kernel), ?_⟩; rintro _ _ ⟨rfl, rfl⟩)
      (intro z hz; obtain rfl := bv_xor hz; clear hz)
      (refine ⟨by decide, ?_⟩; intro z hz; obtain rfl := bv_shr (n := 3) (by omega) hz; clear hz)
      (intro z hz; obtain rfl := bv_xor hz; clear hz)
      refine ⟨[0,0], (.q 0 (.q 1 (.q 2 (.q 3 (.q 4 (.q 5 (.q 6 (.q 7 (.q 8 (.q 9 (.q 10 (.q 11 (.q 12 (.q 13 (.q 14 (.fin 15)))))))))))))))), by kernel_rfl, ?_⟩
      (intro z hz; obtain rfl : z = ((t - 7 : Nat) : Int) := (by first | (rw [IntKind.wrap_i64] at hz; omega) | (rw [IntKind.wrap_u64] at hz; omega) | omega); clear hz)
      refine ⟨by omega, by omega, _, ldb0 1 rfl (WV_get (wArr_get b (by omega))), ?_⟩
      (intro z hz; obtain rfl := bv_add hz; clear hz)
      (intro z hz; obtain rfl := bv_add hz; clear hz)
      (intro z hz; obtain rfl : z = ((t - 16 : Nat) : Int) := (by first | (rw [IntKind.wrap_i64] at hz; omega) | (rw [IntKind.wrap_u64] at hz; omega) | omega); clear hz)
      refine ⟨by omega, by omega, _, ldb0 1 rfl (WV_get (wArr_get b (by omega))), ?_⟩
      (intro z hz; obtain rfl := bv_add hz; clear hz)
      refine ⟨by omega, by omega, ?_⟩
      refine ⟨rfl, rfl, 1, nthK_mk rfl (stb0 (by rw [WV_length, wArr_length b ht]; exact ht64) ?_)⟩
      (intro z hz; obtain rfl : z = ((t + 1 : Nat) : Int) := (by first | (rw [IntKind.wrap_i64] at hz; omega) | (rw [IntKind.wrap_u64] at hz; omega) | omega); clear hz)
      refine ⟨rfl, t + 1, by show t + 1 ≤ 64; omega, by show 64 - (t + 1) < 64 - t; omega, ⟨rfl, trivial⟩, ?_, rfl⟩
      rw [WV_set, wArr_set b ht64 (by rw [if_neg hlt]; rfl)]
      exact Ent.refl _
  · replace hb := of_decide_eq_false hb
    obtain rfl : t = 64 := by omega
    clear hb
    refine ⟨WV hw.list, rdPre 0 rfl, rfl, ?_⟩
    intro g11
    refine ⟨rfl, rfl, 2, rfl, rfl, Nat.le_of_ble_eq_true rfl, ?_⟩
    refine ⟨[0,0,0], lexT 0 24, by kernel_rfl, ?_⟩
    refine ⟨by decide, by decide, _, ld 2 rfl rfl, ?_⟩
    refine ⟨by decide, by decide, _, ld 2 rfl rfl, ?_⟩
    refine ⟨by decide, by decide, _, ld 2 rfl rfl, ?_⟩
    refine ⟨by decide, by decide, _, ld 2 rfl rfl, ?_⟩
    refine ⟨by decide, by decide, _, ld 2 rfl rfl, ?_⟩
    refine ⟨by decide, by decide, _, ld 2 rfl rfl, ?_⟩
    refine ⟨by decide, by decide, _, ld 2 rfl rfl, ?_⟩
    refine ⟨by decide, by decide, _, ld 2 rfl rfl, ?_⟩
    refine ⟨[none, none, none, none, none, none, none, none, none, none, none, none, some 12, some 13, some 14, some 15, some 16, some 17, some 18, some 19, some 20, some 21, some 22, some 23, some 24, none, none, none, none, none, none, none, none, none, none, none, none, none, none, none, none, none, none, none, none, none, none, none, none, none, none, none, none, none, none, none, none, none, none, none, none, none, none, none, none, none, none, none, none, none, none, none, none, none, none, none, none, none, none, none, none, none, none, none, none, none, none, none, none, none, none, none, none, none, none, none, none, none, none, none, none, none, none, none, none, none, none, none, none, none, none, none, none, none, none, none, none, none, none, none, none, none, none, some 123, some 124, some 125, some 126, some 127, some 128, some 129, some 130, some 131, some 132, some 133, some 134, some 135, some 136, some 137, some 138, some 139, some 140, some 141, some 142, some 143, some 144, some 145, some 146, some 147, some 148, some 149, some 150, some 151, some 152, some 153, some 154, some 155, some 156, some 157, some 158, some 159, some 160, some 161, some 162, some 163, some 164, some 165, some 166, some 167, some 168, some 169, some 170, some 171, some 172, some 173, some 174, some 175, some 176, some 177, some 178, some 179, some 180, some 181, some 182, some 183, some 184, some 185, some 186, some 187], [123, 12, 13, 14, 15, 16, 17, 18, 19], Nat × S8, fun ⟨t, s⟩ => t ≤ 64 ∧ s = rounds (sched b 64) hw t, fun ⟨t, s⟩ => [.int .i64 t, .int .u32 s.a.toNat, .int .u32 s.b.toNat, .int .u32 s.c.toNat, .int .u32 s.d.toNat, .int .u32 s.e.toNat, .int .u32 s.f.toNat, .int .u32 s.g.toNat, .int .u32 s.h.toNat],
      fun _ => [.blk g 166 (stC hw.list buf len), .blk g4 153 (WV (wArr b 64)), .blk g11 132 (WV hw.list)], fun ⟨t, _⟩ => 64 - t, (0, hw), ⟨Nat.zero_le _, rfl⟩, ⟨rfl, rfl, rfl, rfl, rfl, rfl, rfl, rfl, rfl, trivial⟩, Ent.refl _, ?_⟩
    rintro ⟨t, sa, sb, sc, sd, se, sf, sg, sh⟩ ⟨ht, hst⟩ js2
    refine ⟨fun hb => ?_, fun hb => ?_⟩
    · replace hb := of_decide_eq_true hb
      have ht64 : t < 64 := by omega
      clear hb
      (refine ⟨[], _, RotateLeft32_ok _ _ (-6) 6 (by omega) (by omega) (by decide +kernel), ?_⟩; rintro _ _ ⟨rfl, rfl⟩)
      (refine ⟨[], _, RotateLeft32_ok _ _ (-11) 11 (by omega) (by omega) (by decide +kernel), ?_⟩; rintro _ _ ⟨rfl, rfl⟩)
      (intro z hz; obtain rfl := bv_xor hz; clear hz)
      (refine ⟨[], _, RotateLeft32_ok _ _ (-25) 25 (by omega) (by omega) (by decide +kernel), ?_⟩; rintro _ _ ⟨rfl, rfl⟩)
      (intro z hz; obtain rfl := bv_xor hz; clear hz)
      (refine ⟨[], _, RotateLeft32_ok _ _ (-2) 2 (by omega) (by omega) (by decide +kernel), ?_⟩; rintro _ _ ⟨rfl, rfl⟩)
      (refine ⟨[], _, RotateLeft32_ok _ _ (-13) 13 (by omega) (by omega) (by decide +kernel), ?_⟩; rintro _ _ ⟨rfl, rfl⟩)
      (intro z hz; obtain rfl := bv_xor hz; clear hz)
      (refine ⟨[], _, RotateLeft32_ok _ _ (-22) 22 (by omega) (by omega) (by decide +kernel), ?_⟩; rintro _ _ ⟨rfl, rfl⟩)
      (intro z hz; obtain rfl := bv_xor hz; clear hz)
      refine ⟨[0,0,0], lexT 0 21, by kernel_rfl, ?_⟩
      (intro z hz; obtain rfl := bv_add hz; clear hz)
      (intro z hz; obtain rfl := bv_and hz; clear hz)
      (intro z hz; obtain rfl := bv_not hz; clear hz)
      (intro z hz; obtain rfl := bv_and hz; clear hz)
      (intro z hz; obtain rfl := bv_xor hz; clear hz)
      (intro z hz; obtain rfl := bv_add hz; clear hz)
      refine ⟨by omega, by omega, _, hG.kk ht64, ?_⟩
      (intro z hz; obtain rfl := bv_add hz; clear hz)
      refine ⟨by omega, by omega, _, ldb0 1 rfl (WV_get (wArr_get b ht64)), ?_⟩
      (intro z hz; obtain rfl := bv_add hz; clear hz)
      (intro z hz; obtain rfl := bv_and hz; clear hz)
      (intro z hz; obtain rfl := bv_and hz; clear hz)
      (intro z hz; obtain rfl := bv_xor hz; clear hz)
      (intro z hz; obtain rfl := bv_and hz; clear hz)
      (intro z hz; obtain rfl := bv_xor hz; clear hz)
      (intro z hz; obtain rfl := bv_add hz; clear hz)
      (intro z hz; obtain rfl := bv_add hz; clear hz)
      (intro z hz; obtain rfl := bv_add hz; clear hz)
      (intro z hz; obtain rfl : z = ((t + 1 : Nat) : Int) := (by first | (rw [IntKind.wrap_i64] at hz; omega) | (rw [IntKind.wrap_u64] at hz; omega) | omega); clear hz)
      refine ⟨rfl, (t + 1, ⟨_, _, _, _, _, _, _, _⟩), ⟨by omega, ?_⟩, by show 64 - (t + 1) < 64 - t; omega, ⟨rfl, rfl, rfl, rfl, rfl, rfl, rfl, rfl, rfl, trivial⟩, Ent.refl _, rfl⟩
      rw [rounds_succ, ← hst]
      rfl
    · replace hb := of_decide_eq_false hb
      obtain rfl : t = 64 := by omega
      clear hb
      have hl8 : [sa, sb, sc, sd, se, sf, sg, sh] = (rounds (sched b 64) hw 64).list := by rw [← hst]; rfl
      refine ⟨[none, none, none, none, none, none, none, none, none, none, none, none, none, none, none, none, none, none, none, none, none, none, none, none, none, some 25, some 26, none, none, none, none, none, none, none, none, none, none, none, none, none, none, none, none, none, none, none, none, none, none, none, none, none, none, none, none, none, none, none, none, none, none, none, none, none, none, none, none, none, none, none, none, none, none, none, none, none, none, none, none, none, none, none, none, none, none, none, none, none, none, none, none, none, none, none, none, none, none, none, none, none, none, none, none, none, none, none, none, none, none, none, none, none, none, none, none, none, none, none, none, none, none, none, none, none, none, none, none, none, none, none, none, none, none, none, none, none, none, none, none, none, none, none, none, none, none, none, none, none, none, none, none, none, none, none, none, none, none, none, none, none, none, none, none, none, none, none, none, none, none, none, none, none, none, none, none, none, none, none, none, none, none, none, none, none, none, none, none, none, none, none, none, none, none, none, none, none, none, some 197, some 198, some 199, some 200, some 201, some 202, some 203, some 204, some 205, some 206, some 207, some 208, some 209, some 210, some 211], [197], Nat, fun t => t ≤ 8, fun t => [.int .i64 t], fun t => [.blk g 166 (stC (addArr hw.list (rounds (sched b 64) hw 64).list t) buf len), .blk g4 153 (WV (wArr b 64)), .blk g11 132 (WV hw.list)], fun t => 8 - t, 0, Nat.zero_le _, ⟨rfl, trivial⟩, by show Ent _ [.blk g _ (stC (addArr hw.list _ 0) buf len), _, _]; rw [addArr_zero]; exact Ent.refl _, ?_⟩
      intro i hi js3
      refine ⟨fun hb => ?_, fun hb => ?_⟩
      · replace hb := of_decide_eq_true hb
        have hi8 : i < 8 := by omega
        clear hb
        refine ⟨by omega, by omega, nthK_mk (x := .int .u32 ((rounds (sched b 64) hw 64).list.getD i 0).toNat) (by show (WV [sa, sb, sc, sd, se, sf, sg, sh])[Int.toNat (i : Int) * 1]? = _; rw [toNat1, hl8]; exact WV_get (S8.get_of_lt _ hi8)) ?_⟩
        refine ⟨[1,1], (.q 0 (.q 1 (.q 2 (.q 3 (.q 4 (.q 5 (.q 6 (.q 7 (.q 8 (.q 9 (.one 10 .nil))))))))))), by kernel_rfl, ?_⟩
        refine ⟨by omega, by omega, _, ldb0 1 rfl (WV_get (S8.get_of_lt _ hi8)), ?_⟩
        (intro z hz; obtain rfl := bv_add hz; clear hz)
        refine ⟨by omega, by omega, ?_⟩
        refine ⟨rfl, rfl, 0, nthK_mk rfl (stb0 (by rw [stC_length, addArr_len8 _ _ hi]; omega) ?_)⟩
        (intro z hz; obtain rfl : z = ((i + 1 : Nat) : Int) := (by first | (rw [IntKind.wrap_i64] at hz; omega) | (rw [IntKind.wrap_u64] at hz; omega) | omega); clear hz)
        refine ⟨rfl, i + 1, by show i + 1 ≤ 8; omega, by show 8 - (i + 1) < 8 - i; omega, ⟨rfl, trivial⟩, ?_, rfl⟩
        rw [stC_set (by rw [addArr_len8 _ _ hi]; omega), addArr_set8 _ _ hi8]
        exact Ent.perm (List.perm_append_comm (l₁ := [_, _]) (l₂ := [_]))
      · replace hb := of_decide_eq_false hb
        obtain rfl : i = 8 := by omega
        clear hb
        refine ⟨_, Ent.drop [_] [_, _], ?_⟩
        rw [addArr_full8, compress]

end Go.Proofs.YtbgfnofjnbpdgaaDoor
