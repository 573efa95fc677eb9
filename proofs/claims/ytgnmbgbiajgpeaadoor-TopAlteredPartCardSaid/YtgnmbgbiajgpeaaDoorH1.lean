/-
  Contracts: rotations of words; a block of SHA-256 (package sha256).
-/
import Derived.Test.YtgnmbgbiajgpeaaDoorSha
import Derived.Test.YtgnmbgbiajgpeaaDoorTab
import Derived.Test.YtgnmbgbiajgpeaaDoorV2
namespace Go.Proofs.YtgnmbgbiajgpeaaDoor
open Go Go.RowKit

/-! ### small words -/
theorem addA_mk (g o n : Nat) : addA ⟨g, o, .none⟩ n = ⟨g, o + n, .none⟩ := by cases n <;> simp [addA]
theorem addA_add (a : Addr) (i j : Nat) : addA (a.add i) j = a.add (i + j) := by rw [← addA_eq, add_add]
/-- a cell of a known block, at a computed place -/
theorem ldb {R : Rd} {h : Hp} (j : Nat) {g : Nat} {t : TypeId} {cs : List Value} {o i : Nat} {v : Value} (hi : h[j]? = some (.blk g t cs)) (hc : cs[o + i]? = some v) : RH R h (addA ⟨g, o, .none⟩ (Int.toNat (i : Int) * 1)) v := by
  rw [addA_mk, Int.toNat_natCast, Nat.mul_one]
  exact ld j hi hc
theorem stb {g o i : Nat} {t : TypeId} {cs : List Value} {v : Value} {K : HA → Prop} (h1 : o + i < cs.length) (hK : K (.blk g t (cs.set (o + i) v))) : stE (.blk g t cs) (addA ⟨g, o, .none⟩ (Int.toNat (i : Int) * 1)) [v] K := by
  rw [addA_mk, Int.toNat_natCast, Nat.mul_one]
  exact ⟨rfl, rfl, h1, hK⟩
theorem ldb0 {R : Rd} {h : Hp} (j : Nat) {g : Nat} {t : TypeId} {cs : List Value} {i : Nat} {v : Value} (hi : h[j]? = some (.blk g t cs)) (hc : cs[i]? = some v) : RH R h (addA ⟨g, 0, .none⟩ (Int.toNat (i : Int) * 1)) v := by
  rw [addA_mk, Int.toNat_natCast, Nat.mul_one, Nat.zero_add]
  exact ld j hi hc
theorem stb0 {g i : Nat} {t : TypeId} {cs : List Value} {v : Value} {K : HA → Prop} (h1 : i < cs.length) (hK : K (.blk g t (cs.set i v))) : stE (.blk g t cs) (addA ⟨g, 0, .none⟩ (Int.toNat (i : Int) * 1)) [v] K := by
  rw [addA_mk, Int.toNat_natCast, Nat.mul_one, Nat.zero_add]
  exact ⟨rfl, rfl, h1, hK⟩
/-- the first cells of a known block -/
theorem rdPre {R : Rd} {h : Hp} (i : Nat) {g : Nat} {t : TypeId} {xs ys : List Value} (hi : h[i]? = some (.blk g t (xs ++ ys))) : RdN (RH R h) ⟨g, 0, .none⟩ xs := by
  intro j u hu
  rw [add_zero_addr]
  refine ld i hi ?_
  rw [List.getElem?_append_left (List.getElem?_eq_some_iff.1 hu).1]; exact hu
theorem rh_cons {R : Rd} {x : HA} {r : Hp} {a : Addr} {v : Value} (h : RH R [x] a v) : RH R (x :: r) a v := by
  rcases h with h | ⟨y, hy, hc⟩
  · exact .inl h
  · exact .inr ⟨y, by rw [List.mem_singleton.1 hy]; simp, hc⟩
theorem nthK_mk {α : Type} {K : α → Prop} : ∀ {l : List α} {n : Nat} {x : α}, l[n]? = some x → K x → nthK K l n
  | _ :: _, 0, _, h, hK => by simp only [List.getElem?_cons_zero, Option.some.injEq] at h; subst h; exact hK
  | [], _, _, h, _ => by simp at h
  | _ :: l, n + 1, x, h, hK => by simp only [nthK]; exact nthK_mk (by simpa using h) hK
theorem toNat1 (i : Nat) : Int.toNat (i : Int) * 1 = i := by simp

/-- Words as cells. -/
def WV (l : List W32) : List Value := l.map fun w => .int .u32 w.toNat
theorem WV_length (l : List W32) : (WV l).length = l.length := by simp [WV]
theorem WV_get {l : List W32} {i : Nat} {x : W32} (h : l[i]? = some x) : (WV l)[i]? = some (.int .u32 x.toNat) := by simp [WV, h]
theorem WV_set (l : List W32) (i : Nat) (x : W32) : (WV l).set i (.int .u32 x.toNat) = WV (l.set i x) := by simp [WV, List.map_set]
/-- The array of words, so far. -/
def wArr (b : List UInt8) (t : Nat) : List W32 := sched b t ++ List.replicate (64 - t) 0
theorem wArr_length (b : List UInt8) {t : Nat} (h : t ≤ 64) : (wArr b t).length = 64 := by simp [wArr, sched_length]; omega
theorem wArr_get (b : List UInt8) {i t : Nat} (h : i < t) : (wArr b t)[i]? = some ((sched b t).getD i 0) := by
  rw [wArr, List.getElem?_append_left (by rw [sched_length]; exact h), List.getD_eq_getElem?_getD]
  have : i < (sched b t).length := by rw [sched_length]; exact h
  rw [List.getElem?_eq_getElem this]; rfl
theorem wArr_set (b : List UInt8) {t : Nat} (h : t < 64) {x : W32} (hx : x = if t < 16 then wordAt b t else schedStep (sched b t) t) : (wArr b t).set t x = wArr b (t + 1) := by
  rw [wArr, List.set_append_right _ _ (by rw [sched_length]; omega), sched_length, Nat.sub_self, show 64 - t = (64 - (t + 1)) + 1 by omega, List.replicate_succ, List.set_cons_zero, wArr, sched, hx]
  simp
theorem wArr_zero (b : List UInt8) : List.replicate 64 (Value.int .u32 0) = WV (wArr b 0) := by simp [WV, wArr, sched]
theorem wArr_full (b : List UInt8) : wArr b 64 = sched b 64 := by simp [wArr]

/-- What SHA-256's tables hold. -/
structure ShaG (R : Rd) : Prop where
  k : ∀ i, i < 64 → R ⟨1, i, .none⟩ (.int .u32 (shaK_at i).toNat)
  h : RdN R ⟨0, 0, .none⟩ (WV shaH0.list)
theorem ShaG.mono {R R' : Rd} (h : ShaG R) (hr : ∀ a v, R a v → R' a v) : ShaG R' := ⟨fun i hi => hr _ _ (h.k i hi), fun j v hv => hr _ _ (h.h j v hv)⟩
theorem ShaG.rh {R : Rd} (h : ShaG R) (hp : Hp) : ShaG (RH R hp) := h.mono fun _ _ => .inl

theorem ShaG.kk {R : Rd} (h : ShaG R) {hp : Hp} {i : Nat} (hi : i < 64) : RH R hp (addA ⟨1, 0, .none⟩ (Int.toNat (i : Int) * 1)) (.int .u32 (shaK_at i).toNat) := by
  rw [addA_mk, Int.toNat_natCast, Nat.mul_one, Nat.zero_add]
  exact .inl (h.k i hi)

theorem RotateLeft32_ok (R : Rd) (x : W32) (k : Int) (n : Nat) (h0 : 0 < n) (h1 : n < 32) (hk : bitsOp .and .u64 (IntKind.u64.wrap k) 31 = ((32 - n : Nat) : Int)) :
    Fn Tryd.prog 86 [.int .u32 x.toNat, .int .i64 k] [] R (fun v h => v = .int .u32 (rotr x n).toNat ∧ h = []) := by
  refine fn_of_vc mixed tabOk Tryd.func86 rfl (by kernel_rfl) (Nat.le_of_ble_eq_true rfl) ?_
  intro z hz
  subst hz
  intro z hz
  rw [hk] at hz
  subst hz
  refine ⟨by omega, ?_⟩
  intro z hz
  obtain rfl := bv_shl (by omega) hz
  clear hz
  intro z hz
  obtain rfl : z = (n : Int) := by rw [IntKind.wrap_u64] at hz; omega
  clear hz
  refine ⟨by omega, ?_⟩
  intro z hz
  obtain rfl := bv_shr (by omega) hz
  clear hz
  intro z hz
  obtain rfl := bv_or hz
  clear hz
  refine ⟨_, Ent.refl _, ?_, rfl⟩
  rw [rotr_eq]; rfl

/-- Four bytes of a slice. -/
theorem BsR.four {R : Rd} {A : Option Addr} {n cap : Nat} {b : List UInt8} (h : BsR R (.slice A n cap) b) (hc : b.length ≤ cap) {l : Nat} (hl : l + 4 ≤ b.length) :
    ∃ a, sliceBase A cap l 1 = some a ∧ ∀ k, k < 4 → R (addA a k) (.int .u8 (b.getD (l + k) 0).toNat) := by
  have hb : ∀ k, k < 4 → b[l + k]? = some (b.getD (l + k) 0) := fun k hk => by
    rw [List.getD_eq_getElem?_getD, List.getElem?_eq_getElem (by omega)]; rfl
  obtain ⟨a, ha, _⟩ := h.at_ (hb 0 (by omega))
  subst ha
  refine ⟨a.add (l * 1), by rw [sliceBase, if_neg (by omega)]; rfl, fun k hk => ?_⟩
  obtain ⟨a', ha', hr⟩ := h.at_ (hb k hk)
  cases ha'
  rw [addA_add, Nat.mul_one]
  exact hr
/-- One byte of a slice. -/
theorem BsR.one {R : Rd} {A : Option Addr} {n cap : Nat} {b : List UInt8} (h : BsR R (.slice A n cap) b) {i : Nat} (hi : i < b.length) : ∃ a, A = some a ∧ R (addA a (Int.toNat (i : Int) * 1)) (.int .u8 (b.getD i 0).toNat) := by
  have hb : b[i]? = some (b.getD i 0) := by rw [List.getD_eq_getElem?_getD, List.getElem?_eq_getElem hi]; rfl
  obtain ⟨a, ha, hr⟩ := h.at_ hb
  exact ⟨a, ha, by rw [toNat1, ← addA_eq]; exact hr⟩

theorem shl_byte {l : List UInt8} {i n : Nat} : BitVec.ofNat 32 (l.getD i 0).toNat <<< n = byteW l i <<< n := rfl

end Go.Proofs.YtgnmbgbiajgpeaaDoor

namespace Go.Proofs.YtgnmbgbiajgpeaaDoor
open Go Go.RowKit

theorem rounds_succ (w : List W32) (s : S8) (t : Nat) : rounds w s (t + 1) = rnd (rounds w s t) (shaK_at t) (w.getD t 0) := rfl

/-- The words of a state while the last loop adds to them. -/
def addArr (x y : List W32) (i : Nat) : List W32 := (List.zipWith (· + ·) x y).take i ++ x.drop i
theorem addArr_zero (x y : List W32) : addArr x y 0 = x := by simp [addArr]
theorem addArr_set {x y : List W32} (hl : x.length = y.length) {i : Nat} {a b : W32} (ha : x[i]? = some a) (hb : y[i]? = some b) : (addArr x y i).set i (a + b) = addArr x y (i + 1) := by
  have hi := (List.getElem?_eq_some_iff.1 ha).1
  have hz : (List.zipWith (· + ·) x y).length = x.length := by simp [hl]
  have hg : (List.zipWith (· + ·) x y)[i]? = some (a + b) := by rw [List.getElem?_zipWith, ha, hb]
  rw [addArr, addArr, List.set_append_right _ _ (by simp; omega), List.take_add_one, hg]
  have h0 : i - (List.take i (List.zipWith (· + ·) x y)).length = 0 := by rw [List.length_take]; omega
  have hd : x.drop i = a :: x.drop (i + 1) := by
    rw [List.drop_eq_getElem_cons hi]
    congr 1
    rw [List.getElem?_eq_getElem hi] at ha; exact Option.some.inj ha
  rw [h0, hd, List.set_cons_zero]
  simp
theorem addArr_length {x y : List W32} (hl : x.length = y.length) {i : Nat} (hi : i ≤ x.length) : (addArr x y i).length = x.length := by
  simp [addArr]; omega
theorem addArr_full {x y : List W32} (hl : x.length = y.length) : addArr x y x.length = List.zipWith (· + ·) x y := by
  have hz : (List.zipWith (· + ·) x y).length = x.length := by simp [hl]
  rw [addArr, List.drop_length, List.append_nil, ← hz, List.take_length]

theorem S8.list_length (s : S8) : s.list.length = 8 := rfl
theorem S8.get_of_lt (s : S8) {i : Nat} (h : i < 8) : s.list[i]? = some (s.list.getD i 0) := by
  rw [List.getD_eq_getElem?_getD, List.getElem?_eq_getElem (by rw [S8.list_length]; exact h)]; rfl

theorem zip_add (x y : S8) : List.zipWith (· + ·) x.list y.list = (x.add y).list := rfl

theorem addArr_len8 (x y : S8) {i : Nat} (h : i ≤ 8) : (addArr x.list y.list i).length = 8 := addArr_length (x := x.list) (y := y.list) rfl h
theorem addArr_set8 (x y : S8) {i : Nat} (h : i < 8) : (addArr x.list y.list i).set i (x.list.getD i 0 + y.list.getD i 0) = addArr x.list y.list (i + 1) := addArr_set (x := x.list) (y := y.list) rfl (x.get_of_lt h) (y.get_of_lt h)
theorem addArr_full8 (x y : S8) : addArr x.list y.list 8 = (x.add y).list := (addArr_full (x := x.list) (y := y.list) rfl).trans (zip_add x y)

/-- a state's cells -/
def stC (words : List W32) (buf : List Value) (len : Nat) : List Value := WV words ++ (buf ++ [.int .i64 len])
theorem stC_length {words : List W32} {buf : List Value} {len : Nat} : (stC words buf len).length = words.length + (buf.length + 1) := by simp [stC, WV_length]
theorem stC_set {words : List W32} {buf : List Value} {len i : Nat} {x : W32} (h : i < words.length) : (stC words buf len).set i (.int .u32 x.toNat) = stC (words.set i x) buf len := by
  rw [stC, List.set_append_left _ _ (by rw [WV_length]; exact h), WV_set]; rfl

set_option maxRecDepth 100000 in
set_option maxHeartbeats 8000000 in
theorem process_ok (R : Rd) (hG : ShaG R) (g : Nat) (hw : S8) (buf : List Value) (len : Nat) (b : List UInt8) (A : Option Addr) (cap : Nat) (hbuf : buf.length = 64) (hbl : b.length = 64) (hcap : 64 ≤ cap) (hs : BsR (RH R [.blk g 138 (stC hw.list buf len)]) (.slice A 64 cap) b) :
    Fn Tryd.prog 72 [.pointer (some ⟨g, 0, .none⟩), .slice A 64 cap] [.blk g 138 (stC hw.list buf len)] R (fun _ h => h = [.blk g 138 (stC (compress hw b).list buf len)]) := by
  refine fn_of_vc mixed tabOk Tryd.func72 rfl (by kernel_rfl) (Nat.le_of_ble_eq_true rfl) ?_
  intro g4
  refine ⟨[none, none, none, none, none, some 5, some 6, some 7, some 8, some 9, some 10, none, none, none, none, none, none, none, none, none, none, none, none, none, none, none, none, some 27, some 28, some 29, some 30, some 31, some 32, some 33, some 34, some 35, some 36, some 37, some 38, some 39, some 40, some 41, some 42, some 43, some 44, some 45, some 46, some 47, some 48, some 49, some 50, some 51, some 52, some 53, some 54, some 55, some 56, some 57, some 58, some 59, some 60, some 61, some 62, some 63, some 64, some 65, some 66, some 67, some 68, some 69, some 70, some 71, some 72, some 73, some 74, some 75, some 76, some 77, some 78, some 79, some 80, some 81, some 82, some 83, some 84, some 85, some 86, some 87, some 88, some 89, some 90, some 91, some 92, some 93, some 94, some 95, some 96, some 97, some 98, some 99, some 100, some 101, some 102], [27], Nat, fun t => t ≤ 64, fun t => [.int .i64 t], fun t => [.blk g 138 (stC hw.list buf len), .blk g4 151 (WV (wArr b t))], fun t => 64 - t, 0, Nat.zero_le _, ⟨rfl, trivial⟩, by show Ent [_, HA.blk g4 _ (List.replicate 64 _)] _; rw [wArr_zero b]; exact Ent.refl _, ?_⟩
  intro t ht js
  refine ⟨fun hb => ?_, fun hb => ?_⟩
  · replace hb := of_decide_eq_true hb
    have ht64 : t < 64 := by omega
    clear hb
    refine ⟨fun hb => ?_, fun hb => ?_⟩
    · replace hb := of_decide_eq_true hb
      have hlt : t < 16 := by omega
      clear hb
      (intro z hz; obtain rfl : z = ((4 * t : Nat) : Int) := (by first | (rw [IntKind.wrap_i64] at hz; omega) | (rw [IntKind.wrap_u64] at hz; omega) | omega); clear hz)
      (intro z hz; obtain rfl : z = ((4 * t : Nat) : Int) := (by first | (rw [IntKind.wrap_i64] at hz; omega) | (rw [IntKind.wrap_u64] at hz; omega) | omega); clear hz)
      (intro z hz; obtain rfl : z = ((4 * t + 4 : Nat) : Int) := (by first | (rw [IntKind.wrap_i64] at hz; omega) | (rw [IntKind.wrap_u64] at hz; omega) | omega); clear hz)
      refine ⟨4 * t, 4 * t + 4, rfl, rfl, by omega, by omega, ?_⟩
      have hs2 : BsR (RH R [.blk g 138 (stC hw.list buf len), .blk g4 151 (WV (wArr b t))]) (.slice A 64 cap) b := hs.mono fun _ _ => rh_cons
      obtain ⟨a6, ha6, hr6⟩ := hs2.four (by omega) (l := 4 * t) (by omega)
      refine ⟨[0,0], (.q 0 (.q 1 (.q 2 (.q 3 (.q 4 (.q 5 (.q 6 (.q 7 (.q 8 (.q 9 (.q 10 (.q 11 (.q 12 (.q 13 (.q 14 (.q 15 (.q 16 (.q 17 (.q 18 (.q 19 (.q 20 (.q 21 (.q 22 (.q 23 (.fin 24))))))))))))))))))))))))), by kernel_rfl, ?_⟩
      refine ⟨by decide, by omega, a6, ha6, _, hr6 0 (by omega), ?_⟩
      (intro z hz; obtain rfl := bv_byte hz; clear hz)
      (refine ⟨by decide, ?_⟩; intro z hz; obtain rfl := bv_shl (n := 24) (by omega) hz; clear hz)
      refine ⟨by decide, by omega, a6, ha6, _, hr6 1 (by omega), ?_⟩
      (intro z hz; obtain rfl := bv_byte hz; clear hz)
      (refine ⟨by decide, ?_⟩; intro z hz; obtain rfl := bv_shl (n := 16) (by omega) hz; clear hz)
      (intro z hz; obtain rfl := bv_or hz; clear hz)
      refine ⟨by decide, by omega, a6, ha6, _, hr6 2 (by omega), ?_⟩
      (intro z hz; obtain rfl := bv_byte hz; clear hz)
      (refine ⟨by decide, ?_⟩; intro z hz; obtain rfl := bv_shl (n := 8) (by omega) hz; clear hz)
      (intro z hz; obtain rfl := bv_or hz; clear hz)
      refine ⟨by decide, by omega, a6, ha6, _, hr6 3 (by omega), ?_⟩
      (intro z hz; obtain rfl := bv_byte hz; clear hz)
      (intro z hz; obtain rfl := bv_or hz; clear hz)
      refine ⟨by omega, by omega, ?_⟩
      refine ⟨rfl, rfl, 1, nthK_mk rfl (stb0 (by rw [WV_length, wArr_length b ht]; exact ht64) ?_)⟩
      (intro z hz; obtain rfl : z = ((t + 1 : Nat) : Int) := (by first | (rw [IntKind.wrap_i64] at hz; omega) | (rw [IntKind.wrap_u64] at hz; omega) | omega); clear hz)
      refine ⟨rfl, t + 1, by show t + 1 ≤ 64; omega, by show 64 - (t + 1) < 64 - t; omega, ⟨rfl, trivial⟩, ?_, rfl⟩
      rw [WV_set, wArr_set b ht64 (by rw [if_pos hlt]; rfl)]
      exact Ent.refl _
    · replace hb := of_decide_eq_false hb
      have hlt : ¬ t < 16 := by omega
      clear hb
      refine ⟨[0,0], lexT 0 10, by kernel_rfl, ?_⟩
      (intro z hz; obtain rfl : z = ((t - 2 : Nat) : Int) := (by first | (rw [IntKind.wrap_i64] at hz; omega) | (rw [IntKind.wrap_u64] at hz; omega) | omega); clear hz)
      refine ⟨by omega, by omega, _, ldb0 1 rfl (WV_get (wArr_get b (by omega))), ?_⟩
      (intro z hz; obtain rfl : z = ((t - 15 : Nat) : Int) := (by first | (rw [IntKind.wrap_i64] at hz; omega) | (rw [IntKind.wrap_u64] at hz; omega) | omega); clear hz)
      refine ⟨by omega, by omega, _, ldb0 1 rfl (WV_get (wArr_get b (by omega))), ?_⟩
      (refine ⟨[], _, RotateLeft32_ok _ _ (-17) 17 (by omega) (by omega) (by decide +kernel), ?_⟩; rintro _ _ ⟨rfl, rfl⟩)
      (refine ⟨[], _, RotateLeft32_ok _ _ (-19) 19 (by omega) (by omega) (by decide +kernel), ?_⟩; rintro _ _ ⟨rfl, rfl⟩)
      (intro z hz; obtain rfl := bv_xor hz; clear hz)
      (refine ⟨by decide, ?_⟩; intro z hz; obtain rfl := bv_shr (n := 10) (by omega) hz; clear hz)
      (intro z hz; obtain rfl := bv_xor hz; clear hz)
      (refine ⟨[], _, RotateLeft32_ok _ _ (-7) 7 (by omega) (by omega) (by decide +kernel), ?_⟩; rintro _ _ ⟨rfl, rfl⟩)
      (refine ⟨[], _, RotateLeft32_ok _ _ (-18) 18 (by omega) (by omega) (by decide +kernel), ?_⟩; rintro _ _ ⟨rfl, rfl⟩)
      (intro z hz; obtain rfl := bv_xor hz; clear hz)
      (refine ⟨by decide, ?_⟩; intro z hz; obtain rfl := bv_shr (n := 3) (by omega) hz; clear hz)
      (intro z hz; obtain rfl := bv_xor hz; clear hz)
      refine ⟨[0,0], (.q 0 (.q 1 (.q 2 (.q 3 (.q 4 (.q 5 (.q 6 (.q 7 (.q 8 (.q 9 (.q 10 (.q 11 (.q 12 (.q 13 (.q 14 (.fin 15)))))))))))))))), by kernel_rfl, ?_⟩
      (intro z hz; obtain rfl : z = ((t - 7 : Nat) : Int) := (by first | (rw [IntKind.wrap_i64] at hz; omega) | (rw [IntKind.wrap_u64] at hz; omega) | omega); clear hz)
      refine ⟨by omega, by omega, _, ldb0 1 rfl (WV_get (wArr_get b (by omega))), ?_⟩
      (intro z hz; obtain rfl := bv_add hz; clear hz)
      (intro z hz; obtain rfl := bv_add hz; clear hz)
      (intro z hz; obtain rfl : z = ((t - 16 : Nat) : Int) := (by first | (rw [IntKind.wrap_i64] at hz; omega) | (rw [IntKind.wrap_u64] at hz; omega) | omega); clear hz)
      refine ⟨by omega, by omega, _, ldb0 1 rfl (WV_get (wArr_get b (by omega))), ?_⟩
      (intro z hz; obtain rfl := bv_add hz; clear hz)
      refine ⟨by omega, by omega, ?_⟩
      refine ⟨rfl, rfl, 1, nthK_mk rfl (stb0 (by rw [WV_length, wArr_length b ht]; exact ht64) ?_)⟩
      (intro z hz; obtain rfl : z = ((t + 1 : Nat) : Int) := (by first | (rw [IntKind.wrap_i64] at hz; omega) | (rw [IntKind.wrap_u64] at hz; omega) | omega); clear hz)
      refine ⟨rfl, t + 1, by show t + 1 ≤ 64; omega, by show 64 - (t + 1) < 64 - t; omega, ⟨rfl, trivial⟩, ?_, rfl⟩
      rw [WV_set, wArr_set b ht64 (by rw [if_neg hlt]; rfl)]
      exact Ent.refl _
  · replace hb := of_decide_eq_false hb
    obtain rfl : t = 64 := by omega
    clear hb
    refine ⟨WV hw.list, rdPre 0 rfl, rfl, ?_⟩
    intro g11
    refine ⟨rfl, rfl, 2, rfl, rfl, Nat.le_of_ble_eq_true rfl, ?_⟩
    refine ⟨[0,0,0], lexT 0 24, by kernel_rfl, ?_⟩
    refine ⟨by decide, by decide, _, ld 2 rfl rfl, ?_⟩
    refine ⟨by decide, by decide, _, ld 2 rfl rfl, ?_⟩
    refine ⟨by decide, by decide, _, ld 2 rfl rfl, ?_⟩
    refine ⟨by decide, by decide, _, ld 2 rfl rfl, ?_⟩
    refine ⟨by decide, by decide, _, ld 2 rfl rfl, ?_⟩
    refine ⟨by decide, by decide, _, ld 2 rfl rfl, ?_⟩
    refine ⟨by decide, by decide, _, ld 2 rfl rfl, ?_⟩
    refine ⟨by decide, by decide, _, ld 2 rfl rfl, ?_⟩
    refine ⟨[none, none, none, none, none, none, none, none, none, none, none, none, some 12, some 13, some 14, some 15, some 16, some 17, some 18, some 19, some 20, some 21, some 22, some 23, some 24, none, none, none, none, none, none, none, none, none, none, none, none, none, none, none, none, none, none, none, none, none, none, none, none, none, none, none, none, none, none, none, none, none, none, none, none, none, none, none, none, none, none, none, none, none, none, none, none, none, none, none, none, none, none, none, none, none, none, none, none, none, none, none, none, none, none, none, none, none, none, none, none, none, none, none, none, none, none, none, none, none, none, none, none, none, none, none, none, none, none, none, none, none, none, none, none, none, none, some 123, some 124, some 125, some 126, some 127, some 128, some 129, some 130, some 131, some 132, some 133, some 134, some 135, some 136, some 137, some 138, some 139, some 140, some 141, some 142, some 143, some 144, some 145, some 146, some 147, some 148, some 149, some 150, some 151, some 152, some 153, some 154, some 155, some 156, some 157, some 158, some 159, some 160, some 161, some 162, some 163, some 164, some 165, some 166, some 167, some 168, some 169, some 170, some 171, some 172, some 173, some 174, some 175, some 176, some 177, some 178, some 179, some 180, some 181, some 182, some 183, some 184, some 185, some 186, some 187], [123, 12, 13, 14, 15, 16, 17, 18, 19], Nat × S8, fun ⟨t, s⟩ => t ≤ 64 ∧ s = rounds (sched b 64) hw t, fun ⟨t, s⟩ => [.int .i64 t, .int .u32 s.a.toNat, .int .u32 s.b.toNat, .int .u32 s.c.toNat, .int .u32 s.d.toNat, .int .u32 s.e.toNat, .int .u32 s.f.toNat, .int .u32 s.g.toNat, .int .u32 s.h.toNat],
      fun _ => [.blk g 138 (stC hw.list buf len), .blk g4 151 (WV (wArr b 64)), .blk g11 135 (WV hw.list)], fun ⟨t, _⟩ => 64 - t, (0, hw), ⟨Nat.zero_le _, rfl⟩, ⟨rfl, rfl, rfl, rfl, rfl, rfl, rfl, rfl, rfl, trivial⟩, Ent.refl _, ?_⟩
    rintro ⟨t, sa, sb, sc, sd, se, sf, sg, sh⟩ ⟨ht, hst⟩ js2
    refine ⟨fun hb => ?_, fun hb => ?_⟩
    · replace hb := of_decide_eq_true hb
      have ht64 : t < 64 := by omega
      clear hb
      (refine ⟨[], _, RotateLeft32_ok _ _ (-6) 6 (by omega) (by omega) (by decide +kernel), ?_⟩; rintro _ _ ⟨rfl, rfl⟩)
      (refine ⟨[], _, RotateLeft32_ok _ _ (-11) 11 (by omega) (by omega) (by decide +kernel), ?_⟩; rintro _ _ ⟨rfl, rfl⟩)
      (intro z hz; obtain rfl := bv_xor hz; clear hz)
      (refine ⟨[], _, RotateLeft32_ok _ _ (-25) 25 (by omega) (by omega) (by decide +kernel), ?_⟩; rintro _ _ ⟨rfl, rfl⟩)
      (intro z hz; obtain rfl := bv_xor hz; clear hz)
      (refine ⟨[], _, RotateLeft32_ok _ _ (-2) 2 (by omega) (by omega) (by decide +kernel), ?_⟩; rintro _ _ ⟨rfl, rfl⟩)
      (refine ⟨[], _, RotateLeft32_ok _ _ (-13) 13 (by omega) (by omega) (by decide +kernel), ?_⟩; rintro _ _ ⟨rfl, rfl⟩)
      (intro z hz; obtain rfl := bv_xor hz; clear hz)
      (refine ⟨[], _, RotateLeft32_ok _ _ (-22) 22 (by omega) (by omega) (by decide +kernel), ?_⟩; rintro _ _ ⟨rfl, rfl⟩)
      (intro z hz; obtain rfl := bv_xor hz; clear hz)
      refine ⟨[0,0,0], lexT 0 21, by kernel_rfl, ?_⟩
      (intro z hz; obtain rfl := bv_add hz; clear hz)
      (intro z hz; obtain rfl := bv_and hz; clear hz)
      (intro z hz; obtain rfl := bv_not hz; clear hz)
      (intro z hz; obtain rfl := bv_and hz; clear hz)
      (intro z hz; obtain rfl := bv_xor hz; clear hz)
      (intro z hz; obtain rfl := bv_add hz; clear hz)
      refine ⟨by omega, by omega, _, hG.kk ht64, ?_⟩
      (intro z hz; obtain rfl := bv_add hz; clear hz)
      refine ⟨by omega, by omega, _, ldb0 1 rfl (WV_get (wArr_get b ht64)), ?_⟩
      (intro z hz; obtain rfl := bv_add hz; clear hz)
      (intro z hz; obtain rfl := bv_and hz; clear hz)
      (intro z hz; obtain rfl := bv_and hz; clear hz)
      (intro z hz; obtain rfl := bv_xor hz; clear hz)
      (intro z hz; obtain rfl := bv_and hz; clear hz)
      (intro z hz; obtain rfl := bv_xor hz; clear hz)
      (intro z hz; obtain rfl := bv_add hz; clear hz)
      (intro z hz; obtain rfl := bv_add hz; clear hz)
      (intro z hz; obtain rfl := bv_add hz; clear hz)
      (intro z hz; obtain rfl : z = ((t + 1 : Nat) : Int) := (by first | (rw [IntKind.wrap_i64] at hz; omega) | (rw [IntKind.wrap_u64] at hz; omega) | omega); clear hz)
      refine ⟨rfl, (t + 1, ⟨_, _, _, _, _, _, _, _⟩), ⟨by omega, ?_⟩, by show 64 - (t + 1) < 64 - t; omega, ⟨rfl, rfl, rfl, rfl, rfl, rfl, rfl, rfl, rfl, trivial⟩, Ent.refl _, rfl⟩
      rw [rounds_succ, ← hst]
      rfl
    · replace hb := of_decide_eq_false hb
      obtain rfl : t = 64 := by omega
      clear hb
      have hl8 : [sa, sb, sc, sd, se, sf, sg, sh] = (rounds (sched b 64) hw 64).list := by rw [← hst]; rfl
      refine ⟨[none, none, none, none, none, none, none, none, none, none, none, none, none, none, none, none, none, none, none, none, none, none, none, none, none, some 25, some 26, none, none, none, none, none, none, none, none, none, none, none, none, none, none, none, none, none, none, none, none, none, none, none, none, none, none, none, none, none, none, none, none, none, none, none, none, none, none, none, none, none, none, none, none, none, none, none, none, none, none, none, none, none, none, none, none, none, none, none, none, none, none, none, none, none, none, none, none, none, none, none, none, none, none, none, none, none, none, none, none, none, none, none, none, none, none, none, none, none, none, none, none, none, none, none, none, none, none, none, none, none, none, none, none, none, none, none, none, none, none, none, none, none, none, none, none, none, none, none, none, none, none, none, none, none, none, none, none, none, none, none, none, none, none, none, none, none, none, none, none, none, none, none, none, none, none, none, none, none, none, none, none, none, none, none, none, none, none, none, none, none, none, none, none, none, none, none, none, none, none, some 197, some 198, some 199, some 200, some 201, some 202, some 203, some 204, some 205, some 206, some 207, some 208, some 209, some 210, some 211], [197], Nat, fun t => t ≤ 8, fun t => [.int .i64 t], fun t => [.blk g 138 (stC (addArr hw.list (rounds (sched b 64) hw 64).list t) buf len), .blk g4 151 (WV (wArr b 64)), .blk g11 135 (WV hw.list)], fun t => 8 - t, 0, Nat.zero_le _, ⟨rfl, trivial⟩, by show Ent _ [.blk g _ (stC (addArr hw.list _ 0) buf len), _, _]; rw [addArr_zero]; exact Ent.refl _, ?_⟩
      intro i hi js3
      refine ⟨fun hb => ?_, fun hb => ?_⟩
      · replace hb := of_decide_eq_true hb
        have hi8 : i < 8 := by omega
        clear hb
        refine ⟨by omega, by omega, nthK_mk (x := .int .u32 ((rounds (sched b 64) hw 64).list.getD i 0).toNat) (by show (WV [sa, sb, sc, sd, se, sf, sg, sh])[Int.toNat (i : Int) * 1]? = _; rw [toNat1, hl8]; exact WV_get (S8.get_of_lt _ hi8)) ?_⟩
        refine ⟨[1,1], (.q 0 (.q 1 (.q 2 (.q 3 (.q 4 (.q 5 (.q 6 (.q 7 (.q 8 (.q 9 (.one 10 .nil))))))))))), by kernel_rfl, ?_⟩
        refine ⟨by omega, by omega, _, ldb0 1 rfl (WV_get (S8.get_of_lt _ hi8)), ?_⟩
        (intro z hz; obtain rfl := bv_add hz; clear hz)
        refine ⟨by omega, by omega, ?_⟩
        refine ⟨rfl, rfl, 0, nthK_mk rfl (stb0 (by rw [stC_length, addArr_len8 _ _ hi]; omega) ?_)⟩
        (intro z hz; obtain rfl : z = ((i + 1 : Nat) : Int) := (by first | (rw [IntKind.wrap_i64] at hz; omega) | (rw [IntKind.wrap_u64] at hz; omega) | omega); clear hz)
        refine ⟨rfl, i + 1, by show i + 1 ≤ 8; omega, by show 8 - (i + 1) < 8 - i; omega, ⟨rfl, trivial⟩, ?_, rfl⟩
        rw [stC_set (by rw [addArr_len8 _ _ hi]; omega), addArr_set8 _ _ hi8]
        exact Ent.perm (List.perm_append_comm (l₁ := [_, _]) (l₂ := [_]))
      · replace hb := of_decide_eq_false hb
        obtain rfl : i = 8 := by omega
        clear hb
        refine ⟨_, Ent.drop [_] [_, _], ?_⟩
        rw [addArr_full8, compress]

end Go.Proofs.YtgnmbgbiajgpeaaDoor

namespace Go.Proofs.YtgnmbgbiajgpeaaDoor
open Go Go.RowKit

theorem sliceBase_zero (A : Option Addr) (cap sz : Nat) : sliceBase A cap 0 sz = A := by
  unfold sliceBase
  split
  · rfl
  · cases A <;> simp [Addr.add]

theorem BsR.sub {R : Rd} {A : Option Addr} {n cap : Nat} {b : List UInt8} (hb : BsR R (.slice A n cap) b) {l h : Nat} (h1 : l ≤ h) (h2 : h ≤ b.length) (hc : b.length ≤ cap) : BsR R (.slice (sliceBase A cap l 1) (h - l) (cap - l)) ((b.drop l).take (h - l)) := by
  have hl : ((b.drop l).take (h - l)).length = h - l := by rw [List.length_take, List.length_drop]; omega
  refine ⟨by rw [BV_length, Nat.mul_one], _, _, by rw [hl], fun j u hu => ?_⟩
  rw [BV, List.getElem?_map] at hu
  cases hj : ((b.drop l).take (h - l))[j]? with
  | none => rw [hj] at hu; cases hu
  | some y =>
    rw [hj] at hu
    simp only [Option.map_some, Option.some.injEq] at hu
    subst hu
    have hjl := (List.getElem?_eq_some_iff.1 hj).1
    rw [List.getElem?_take_of_lt (by omega), List.getElem?_drop] at hj
    obtain ⟨a, rfl, hr⟩ := hb.at_ hj
    refine ⟨a.add (l * 1), ?_, by rw [add_add, Nat.mul_one]; exact hr⟩
    unfold sliceBase
    rw [if_neg (by omega)]; rfl

theorem blocks_snoc {z t : List UInt8} (hz : z.length % 64 = 0) (ht : t.length = 64) : blocks ((z ++ t).length / 64) shaH0 (z ++ t) = compress (blocks (z.length / 64) shaH0 z) t := by
  rw [List.length_append, ht, show (z.length + 64) / 64 = z.length / 64 + 1 by omega, blocks_append _ _ _ _ _ (by omega), blocks, blocks, List.take_of_length_le (by omega)]

/-- the state behind the bytes x -/
def ShaSt (x : List UInt8) (cs : List Value) : Prop :=
  ∃ buf rest, buf.length = 64 ∧ (∀ u ∈ buf, u.oneCell' = true) ∧ buf = BV (x.drop (64 * (x.length / 64))) ++ rest ∧ cs = stC (blocks (x.length / 64) shaH0 x).list buf x.length

theorem stC_len {words : List W32} {buf : List Value} {len : Nat} (hw : words.length = 8) (hb : buf.length = 64) : (stC words buf len)[72]? = some (.int .i64 len) := by
  rw [stC, List.getElem?_append_right (by rw [WV_length]; omega), WV_length, hw, List.getElem?_append_right (by omega), hb]
  rfl
theorem stLen {g : Nat} {t : TypeId} {words : List W32} {buf : List Value} {len : Nat} {n : Nat} {K : HA → Prop} (hw : words.length = 8) (hb : buf.length = 64) (hK : K (.blk g t (stC words buf n))) : stE (.blk g t (stC words buf len)) ⟨g, 72, .none⟩ [.int .i64 n] K := by
  refine ⟨rfl, rfl, by rw [stC_length, hw, hb]; exact Nat.le_refl _, ?_⟩
  have : setRange (stC words buf len) 72 [.int .i64 n] = stC words buf n := by
    show (stC words buf len).set 72 _ = _
    rw [stC, List.set_append_right _ _ (by rw [WV_length]; omega), WV_length, hw, List.set_append_right _ _ (by omega), hb]
    rfl
  show K (.blk g t (setRange (stC words buf len) 72 [.int .i64 n]))
  rw [this]; exact hK
theorem setRange_mid : ∀ (vs pre mid : List Value), vs.length ≤ mid.length → setRange (pre ++ mid) pre.length vs = pre ++ (vs ++ mid.drop vs.length)
  | [], pre, mid, _ => by simp [setRange]
  | v :: vs, pre, [], h => by simp at h
  | v :: vs, pre, m :: mid, h => by
    simp only [setRange]
    rw [List.set_append_right _ _ (Nat.le_refl _)]
    simp only [Nat.sub_self, List.set_cons_zero]
    have := setRange_mid vs (pre ++ [v]) mid (by simpa using h)
    simp only [List.length_append, List.length_singleton, List.append_assoc, List.singleton_append] at this
    rw [this]
    simp
theorem stBuf {g u : Nat} {t : TypeId} {words : List W32} {buf : List Value} {len : Nat} {vs : List Value} {K : HA → Prop} (hw : words.length = 8) (hb : buf.length = 64) (hu : u + vs.length ≤ 64) (hK : K (.blk g t (stC words (buf.take u ++ (vs ++ buf.drop (u + vs.length))) len))) :
    stE (.blk g t (stC words buf len)) ⟨g, 8 + u, .none⟩ vs K := by
  refine ⟨rfl, rfl, ?_, ?_⟩
  · show 8 + u + vs.length ≤ _
    rw [stC_length, hw, hb]; omega
  · show K (.blk g t (setRange (stC words buf len) (8 + u) vs))
    have e : stC words buf len = (WV words ++ buf.take u) ++ (buf.drop u ++ [.int .i64 len]) := by
      rw [stC, List.append_assoc, ← List.append_assoc (buf.take u), List.take_append_drop]
    have hl : (WV words ++ buf.take u).length = 8 + u := by rw [List.length_append, WV_length, hw, List.length_take]; omega
    rw [e, ← hl, setRange_mid _ _ _ (by simp; omega), List.drop_append_of_le_length (by rw [List.length_drop]; omega), List.drop_drop]
    rw [stC] at hK
    simpa using hK

/-- the buffer, full -/
theorem bufR (R : Rd) {g : Nat} {t : TypeId} {words : List W32} {b : List UInt8} {len : Nat} (hw : words.length = 8) (hb : b.length = 64) : BsR (RH R [.blk g t (stC words (BV b) len)]) (.slice (some ⟨g, 8, .none⟩) 64 64) b := by
  refine ⟨by rw [BV_length, Nat.mul_one], _, _, by rw [hb], fun j u hu => ⟨_, rfl, ?_⟩⟩
  have hj := (List.getElem?_eq_some_iff.1 hu).1
  rw [addA_eq, addA_mk]
  refine ld 0 rfl ?_
  rw [stC, List.getElem?_append_right (by rw [WV_length]; omega), WV_length, hw, Nat.add_sub_cancel_left, List.getElem?_append_left hj]
  exact hu

set_option maxRecDepth 100000 in
set_option maxHeartbeats 4000000 in
theorem Write_ok (R : Rd) (hG : ShaG R) (g : Nat) (x y : List UInt8) (A : Option Addr) (cap : Nat) (cs : List Value) (hx : x.length + y.length ≤ 4611686018427387904) (hcap : y.length ≤ cap) (hy : BsR R (.slice A y.length cap) y) (hcs : ShaSt x cs) :
    Fn Tryd.prog 52 [.pointer (some ⟨g, 0, .none⟩), .slice A y.length cap] [.blk g 138 cs] R (fun _ h => ∃ cs', h = [.blk g 138 cs'] ∧ ShaSt (x ++ y) cs') := by
  obtain ⟨buf, rest, hbuf, hone, hbr, rfl⟩ := hcs
  have hdl : (x.drop (64 * (x.length / 64))).length = x.length % 64 := by rw [List.length_drop]; omega
  have hul : x.length % 64 < 64 := Nat.mod_lt _ (by omega)
  have hML := maxLen_eq
  refine fn_of_vc mixed tabOk Tryd.func52 rfl (by kernel_rfl) (Nat.le_of_ble_eq_true rfl) ?_
  refine ⟨_, ld 0 rfl (stC_len rfl hbuf), ?_⟩
  refine ⟨by decide, ?_⟩
  intro z hz; obtain rfl : z = ((x.length % 64 : Nat) : Int) := hz
  refine ⟨_, ld 0 rfl (stC_len rfl hbuf), ?_⟩
  (intro z hz; obtain rfl : z = ((x.length + y.length : Nat) : Int) := (by first | (rw [IntKind.wrap_i64] at hz; omega) | (rw [IntKind.wrap_u64] at hz; omega) | omega); clear hz)
  refine ⟨rfl, rfl, 0, nthK_mk rfl (stLen rfl hbuf ?_)⟩
  refine ⟨fun hb => ?_, fun hb => ?_⟩
  · replace hb := of_decide_eq_true hb
    have hu0 : 0 < x.length % 64 := by omega
    clear hb
    refine ⟨x.length % 64, 64, rfl, rfl, by omega, by omega, ?_⟩
    refine ⟨BV y, (BV_length y).trans (Nat.mul_one _).symm, (hy.rh _).src, BV_one _, fun c hc => .inr ⟨⟨g, 8 + x.length % 64, .none⟩, ?_, 0, nthK_mk rfl (stBuf (vs := (BV y).take (c * 1)) rfl hbuf ?_ ?_)⟩⟩
    · unfold sliceBase
      rw [if_neg (by omega), Option.map_some, addA_eq, addA_mk, addA_mk]
      show some (⟨g, 0 + 8 + x.length % 64 * 1, .none⟩ : Addr) = _
      rw [Nat.mul_one, Nat.zero_add]
    · rw [List.length_take, BV_length]; omega
    have hbt : buf.take (x.length % 64) = BV (x.drop (64 * (x.length / 64))) := by
      rw [hbr, List.take_append_of_le_length (by rw [BV_length]; omega), List.take_of_length_le (by rw [BV_length]; omega)]
    rw [hbt, Nat.mul_one, List.length_take, BV_length, Nat.min_eq_left (show c ≤ y.length by omega), show (BV y).take c = BV (y.take c) by simp [BV, List.map_take]]
    refine ⟨c, y.length, rfl, rfl, by omega, hcap, ?_⟩
    (intro z hz; obtain rfl : z = ((x.length % 64 + c : Nat) : Int) := (by first | (rw [IntKind.wrap_i64] at hz; omega) | (rw [IntKind.wrap_u64] at hz; omega) | omega); clear hz)
    refine ⟨fun hb => ?_, fun hb => ?_⟩
    · replace hb := of_decide_eq_true hb
      have hlt : x.length % 64 + c < 64 := by omega
      have hcy : c = y.length := by omega
      clear hb
      refine ⟨_, Ent.refl _, _, rfl, BV (x.drop (64 * (x.length / 64))) ++ (BV (y.take c) ++ buf.drop (x.length % 64 + c)), buf.drop (x.length % 64 + c), ?_, fun u hu => ?_, ?_, ?_⟩
      rotate_left 3
      · have hq : (x ++ y).length / 64 = x.length / 64 := by rw [List.length_append]; omega
        rw [hq, blocks_take _ _ _ _ (by omega), List.length_append]
      · rw [List.length_append, List.length_append, BV_length, BV_length, List.length_drop, List.length_take, List.length_drop]; omega
      · rcases List.mem_append.1 hu with hu | hu
        · exact allOne_iff (BV_one _) u hu
        · rcases List.mem_append.1 hu with hu | hu
          · exact allOne_iff (BV_one _) u hu
          · exact hone u (List.mem_of_mem_drop hu)
      · have hq : (x ++ y).length / 64 = x.length / 64 := by rw [List.length_append]; omega
        rw [hq, List.drop_append_of_le_length (by omega), BV_append, hcy, List.take_length, List.append_assoc]
    · replace hb := of_decide_eq_false hb
      have hcy : x.length % 64 + c = 64 := by omega
      clear hb
      have hbl : (x.drop (64 * (x.length / 64)) ++ y.take c).length = 64 := by rw [List.length_append, hdl, List.length_take]; omega
      have hbb : BV (x.drop (64 * (x.length / 64))) ++ (BV (y.take c) ++ buf.drop (x.length % 64 + c)) = BV (x.drop (64 * (x.length / 64)) ++ y.take c) := by
        rw [hcy, List.drop_of_length_le (show buf.length ≤ 64 by omega), List.append_nil, BV_append]
      rw [hbb]
      refine ⟨0, 64, rfl, rfl, by omega, by omega, ?_⟩
      refine ⟨[0], _, process_ok _ (hG.rh _) g _ _ (x.length + y.length) (x.drop (64 * (x.length / 64)) ++ y.take c) _ _ (by rw [BV_length]; exact hbl) hbl (by omega) (bufR _ rfl hbl), ?_⟩
      rintro _ _ rfl
      have hy2 := hy.sub (l := c) (h := y.length) (by omega) (Nat.le_refl _) hcap
      rw [show y.length - c = (y.drop c).length by rw [List.length_drop]] at hy2
      rw [List.take_length] at hy2
      have hz0 : (x ++ y.take c).length % 64 = 0 := by rw [List.length_append, List.length_take]; omega
      have hbk : blocks ((x ++ y.take c).length / 64) shaH0 (x ++ y.take c) = compress (blocks (x.length / 64) shaH0 x) (x.drop (64 * (x.length / 64)) ++ y.take c) := by
        have e1 : x ++ y.take c = x.take (64 * (x.length / 64)) ++ (x.drop (64 * (x.length / 64)) ++ y.take c) := by rw [← List.append_assoc, List.take_append_drop]
        have e2 : (x.take (64 * (x.length / 64))).length = 64 * (x.length / 64) := by rw [List.length_take]; omega
        rw [e1, blocks_snoc (by rw [e2]; omega) hbl, e2, show 64 * (x.length / 64) / 64 = x.length / 64 by omega]
        congr 1
        have := blocks_take (x.length / 64) shaH0 (x.take (64 * (x.length / 64))) (x.drop (64 * (x.length / 64))) (by rw [e2]; exact Nat.le_refl _)
        rw [List.take_append_drop] at this
        exact this.symm
      refine ⟨[none, some 1, none, none, none, none, none, none, none, none, none, none, none, none, none, none, none, none, none, none, none, none, none, none, none, none, none, none, none, none, none, none, none, none, none, none, none, none, none, none, none, none, some 42, some 43, some 44, some 45, some 46, some 47, some 48, some 49, some 50], [1], Option Addr × Nat × List UInt8 × List UInt8 × List Value, fun ⟨A, cap, l, z, buf⟩ => BsR R (.slice A l.length cap) l ∧ l.length ≤ cap ∧ x ++ y = z ++ l ∧ z.length % 64 = 0 ∧ buf.length = 64 ∧ (∀ u ∈ buf, u.oneCell' = true),
        fun ⟨A, cap, l, _, _⟩ => [.slice A l.length cap], fun ⟨_, _, _, z, buf⟩ => [.blk g 138 (stC (blocks (z.length / 64) shaH0 z).list buf (x.length + y.length))], fun ⟨_, _, l, _, _⟩ => l.length, (sliceBase A cap c 1, cap - c, y.drop c, x ++ y.take c, BV (x.drop (64 * (x.length / 64)) ++ y.take c)), ⟨hy2, (by rw [List.length_drop]; omega), (by rw [List.append_assoc, List.take_append_drop]), hz0, (by rw [BV_length]; exact hbl), fun u hu => allOne_iff (BV_one _) u hu⟩, ⟨(by rw [List.length_drop]; rfl), trivial⟩, (by show Ent _ [.blk g _ (stC (blocks ((x ++ y.take c).length / 64) shaH0 (x ++ y.take c)).list _ _)]; rw [hbk]; exact Ent.refl _), ?_⟩
      clear hbuf hbr hone
      rintro ⟨A, cap, l, z, buf⟩ ⟨hl, hlc, hxz, hz, hbuf, hone⟩ js
      have hlen : x.length + y.length = z.length + l.length := by rw [← List.length_append, hxz, List.length_append]
      refine ⟨fun hb => ?_, fun hb => ?_⟩
      · replace hb := of_decide_eq_true hb
        have hge : 64 ≤ l.length := by omega
        clear hb
        refine ⟨0, 64, rfl, rfl, by omega, by omega, ?_⟩
        have hb1 := hl.sub (l := 0) (h := 64) (by omega) hge hlc
        have htl : (l.take 64).length = 64 := by rw [List.length_take]; omega
        refine ⟨[0], _, process_ok _ (hG.rh _) g _ buf (x.length + y.length) (l.take 64) _ _ hbuf htl (by omega) ((hb1.rh []).rh _), ?_⟩
        rintro _ _ rfl
        refine ⟨64, l.length, rfl, rfl, hge, hlc, ?_⟩
        have hb2 := hl.sub (l := 64) (h := l.length) hge (Nat.le_refl _) hlc
        rw [show l.length - 64 = (l.drop 64).length by rw [List.length_drop]] at hb2
        rw [List.take_length] at hb2
        refine ⟨rfl, (sliceBase A cap 64 1, cap - 64, l.drop 64, z ++ l.take 64, buf), ⟨hb2, by rw [List.length_drop]; omega, by rw [hxz, List.append_assoc, List.take_append_drop], by rw [List.length_append, htl]; omega, hbuf, hone⟩, by show (l.drop 64).length < l.length; rw [List.length_drop]; omega, ⟨by rw [List.length_drop]; rfl, trivial⟩, ?_, rfl⟩
        show Ent _ [.blk g _ (stC (blocks ((z ++ l.take 64).length / 64) shaH0 (z ++ l.take 64)).list _ _)]
        rw [blocks_snoc hz htl]
        exact Ent.refl _
      · replace hb := of_decide_eq_false hb
        have hlt : l.length < 64 := by omega
        clear hb
        refine ⟨0, 64, rfl, rfl, by omega, by omega, ?_⟩
        refine ⟨BV l, (BV_length l).trans (Nat.mul_one _).symm, (hl.rh _).src, BV_one _, fun c hc => .inr ⟨⟨g, 8 + 0, .none⟩, rfl, 0, nthK_mk rfl (stBuf (vs := (BV l).take (c * 1)) rfl hbuf (by rw [List.length_take, BV_length]; omega) ?_)⟩⟩
        have hcl : c = l.length := by omega
        subst hcl
        have hq : (x ++ y).length / 64 = z.length / 64 := by rw [hxz, List.length_append]; omega
        refine ⟨_, Ent.refl _, _, rfl, buf.take 0 ++ ((BV l).take (l.length * 1) ++ buf.drop (0 + ((BV l).take (l.length * 1)).length)), buf.drop (0 + ((BV l).take (l.length * 1)).length), ?_, fun u hu => ?_, ?_, ?_⟩
        rotate_left 3
        · rw [hq, hxz, blocks_take _ _ _ _ (by omega), List.length_append, ← hlen]
        · rw [List.length_append, List.length_append, List.length_drop, List.length_take, List.length_take, BV_length]; omega
        · rcases List.mem_append.1 hu with hu | hu
          · exact hone u (List.mem_of_mem_take hu)
          · rcases List.mem_append.1 hu with hu | hu
            · exact allOne_iff (BV_one _) u (List.mem_of_mem_take hu)
            · exact hone u (List.mem_of_mem_drop hu)
        · rw [hq, hxz, List.take_zero, List.nil_append, Nat.mul_one, List.take_of_length_le (by rw [BV_length]; exact Nat.le_refl _), show 64 * (z.length / 64) = z.length by omega, List.drop_left]
  · replace hb := of_decide_eq_false hb
    have hu0 : x.length % 64 = 0 := by omega
    clear hb
    refine ⟨[none, some 1, none, none, none, none, none, none, none, none, none, none, none, none, none, none, none, none, none, none, none, none, none, none, none, none, none, none, none, none, none, none, none, none, none, none, none, none, none, none, none, none, some 42, some 43, some 44, some 45, some 46, some 47, some 48, some 49, some 50], [1], Option Addr × Nat × List UInt8 × List UInt8 × List Value, fun ⟨A, cap, l, z, buf⟩ => BsR R (.slice A l.length cap) l ∧ l.length ≤ cap ∧ x ++ y = z ++ l ∧ z.length % 64 = 0 ∧ buf.length = 64 ∧ (∀ u ∈ buf, u.oneCell' = true),
      fun ⟨A, cap, l, _, _⟩ => [.slice A l.length cap], fun ⟨_, _, _, z, buf⟩ => [.blk g 138 (stC (blocks (z.length / 64) shaH0 z).list buf (x.length + y.length))], fun ⟨_, _, l, _, _⟩ => l.length, (A, cap, y, x, buf), ⟨hy, hcap, rfl, hu0, hbuf, hone⟩, ⟨rfl, trivial⟩, Ent.refl _, ?_⟩
    clear hbuf hbr hone
    rintro ⟨A, cap, l, z, buf⟩ ⟨hl, hlc, hxz, hz, hbuf, hone⟩ js
    have hlen : x.length + y.length = z.length + l.length := by rw [← List.length_append, hxz, List.length_append]
    refine ⟨fun hb => ?_, fun hb => ?_⟩
    · replace hb := of_decide_eq_true hb
      have hge : 64 ≤ l.length := by omega
      clear hb
      refine ⟨0, 64, rfl, rfl, by omega, by omega, ?_⟩
      have hb1 := hl.sub (l := 0) (h := 64) (by omega) hge hlc
      have htl : (l.take 64).length = 64 := by rw [List.length_take]; omega
      refine ⟨[0], _, process_ok _ (hG.rh _) g _ buf (x.length + y.length) (l.take 64) _ _ hbuf htl (by omega) ((hb1.rh []).rh _), ?_⟩
      rintro _ _ rfl
      refine ⟨64, l.length, rfl, rfl, hge, hlc, ?_⟩
      have hb2 := hl.sub (l := 64) (h := l.length) hge (Nat.le_refl _) hlc
      rw [show l.length - 64 = (l.drop 64).length by rw [List.length_drop]] at hb2
      rw [List.take_length] at hb2
      refine ⟨rfl, (sliceBase A cap 64 1, cap - 64, l.drop 64, z ++ l.take 64, buf), ⟨hb2, by rw [List.length_drop]; omega, by rw [hxz, List.append_assoc, List.take_append_drop], by rw [List.length_append, htl]; omega, hbuf, hone⟩, by show (l.drop 64).length < l.length; rw [List.length_drop]; omega, ⟨by rw [List.length_drop]; rfl, trivial⟩, ?_, rfl⟩
      show Ent _ [.blk g _ (stC (blocks ((z ++ l.take 64).length / 64) shaH0 (z ++ l.take 64)).list _ _)]
      rw [blocks_snoc hz htl]
      exact Ent.refl _
    · replace hb := of_decide_eq_false hb
      have hlt : l.length < 64 := by omega
      clear hb
      refine ⟨0, 64, rfl, rfl, by omega, by omega, ?_⟩
      refine ⟨BV l, (BV_length l).trans (Nat.mul_one _).symm, (hl.rh _).src, BV_one _, fun c hc => .inr ⟨⟨g, 8 + 0, .none⟩, rfl, 0, nthK_mk rfl (stBuf (vs := (BV l).take (c * 1)) rfl hbuf (by rw [List.length_take, BV_length]; omega) ?_)⟩⟩
      have hcl : c = l.length := by omega
      subst hcl
      have hq : (x ++ y).length / 64 = z.length / 64 := by rw [hxz, List.length_append]; omega
      refine ⟨_, Ent.refl _, _, rfl, buf.take 0 ++ ((BV l).take (l.length * 1) ++ buf.drop (0 + ((BV l).take (l.length * 1)).length)), buf.drop (0 + ((BV l).take (l.length * 1)).length), ?_, fun u hu => ?_, ?_, ?_⟩
      rotate_left 3
      · rw [hq, hxz, blocks_take _ _ _ _ (by omega), List.length_append, ← hlen]
      · rw [List.length_append, List.length_append, List.length_drop, List.length_take, List.length_take, BV_length]; omega
      · rcases List.mem_append.1 hu with hu | hu
        · exact hone u (List.mem_of_mem_take hu)
        · rcases List.mem_append.1 hu with hu | hu
          · exact allOne_iff (BV_one _) u (List.mem_of_mem_take hu)
          · exact hone u (List.mem_of_mem_drop hu)
      · rw [hq, hxz, List.take_zero, List.nil_append, Nat.mul_one, List.take_of_length_le (by rw [BV_length]; exact Nat.le_refl _), show 64 * (z.length / 64) = z.length by omega, List.drop_left]

end Go.Proofs.YtgnmbgbiajgpeaaDoor

namespace Go.Proofs.YtgnmbgbiajgpeaaDoor
open Go Go.RowKit

/-- A part of the memory is handed to the function; the rest is read. -/
theorem Fn.frame {P : Program} {f : FuncId} {args : List Value} {h k : Hp} {R : Rd} {Post : Value → Hp → Prop} (c : Fn P f args h (RH R k) Post) : Fn P f args (h ++ k) R (fun v h' => ∃ h1, h' = k ++ h1 ∧ Post v h1) :=
  ⟨c.1, fun w o r a => (c.2 w o.left (fun ad v hv => by
      rcases hv with hv | ⟨x, hx, hc⟩
      · exact r ad v hv
      · exact HA.cell_sound (o.all x (List.mem_append_right _ hx)) hc) (a.rh o)).mono fun _ _ ⟨v, h1, he, hq, t⟩ => ⟨v, k ++ h1, he, ⟨h1, rfl, hq⟩, (Tr.refl o).frame (List.Perm.refl _) t⟩⟩
/-- The length of a row of the call's own is at most its capacity. -/
theorem fn_row {P : Program} {f : FuncId} {args : List Value} {h : Hp} {R : Rd} {Post : Value → Hp → Prop} (i : Nat) {A : Option Addr} {n cap : Nat} {e : TypeId} {sz : Nat} {xs : List Value} {fz : Nat × Nat} (hi : h[i]? = some (.row A n cap e sz xs fz)) (hc : Callable P f)
    (hF : n ≤ cap → cap ≤ maxLen → Fn P f args h R Post) : Fn P f args h R Post :=
  fn_pure hc (fun _ o => row_cap o i hi) fun h => hF h.1 h.2

/-- bytes of a slice, from its memory: each row of cells -/
theorem SlR.slice {R : Rd} {sz : Nat} {v : Value} {n : Nat} {xs : List Value} (h : SlR R sz v n xs) : ∃ A cap, v = .slice A n cap := by
  obtain ⟨_, A, cap, rfl, _⟩ := h
  exact ⟨A, cap, rfl⟩

theorem New_ok (R : Rd) (hG : ShaG R) : Fn Tryd.prog 51 [] [] R (fun v h => ∃ g cs, v = .pointer (some ⟨g, 0, .none⟩) ∧ h = [.blk g 138 cs] ∧ ShaSt [] cs) := by
  refine fn_of_vc mixed tabOk Tryd.func51 rfl (by kernel_rfl) (Nat.le_of_ble_eq_true rfl) ?_
  refine ⟨WV shaH0.list, (hG.rh _).h, rfl, ?_⟩
  intro g
  refine ⟨_, Ent.refl _, g, _, rfl, rfl, List.replicate 64 (.int .u8 0), List.replicate 64 (.int .u8 0), by simp, fun u hu => by rw [List.eq_of_mem_replicate hu]; rfl, rfl, rfl⟩

theorem setRange_all {vs cs : List Value} (h : vs.length = cs.length) : setRange cs 0 vs = vs := by
  have := setRange_mid vs [] cs (by omega)
  simp only [List.nil_append, List.length_nil, List.drop_of_length_le (show cs.length ≤ vs.length by omega), List.append_nil] at this
  exact this

theorem be64_take {n j : Nat} (hj : j < 8) : (be64 n)[j]? = some (UInt8.ofNat (n / 2 ^ (56 - 8 * j))) := by
  have : j = 0 ∨ j = 1 ∨ j = 2 ∨ j = 3 ∨ j = 4 ∨ j = 5 ∨ j = 6 ∨ j = 7 := by omega
  rcases this with rfl | rfl | rfl | rfl | rfl | rfl | rfl | rfl <;> simp [be64]

theorem u64_shr {n s : Nat} (hs : s ≤ 64) {z : Int} (h : z = ((n : Nat) : Int).fdiv (2 ^ (min (Int.toNat (s : Int)) IntKind.u64.bits))) : z = ((n / 2 ^ s : Nat) : Int) := by
  have e : min (Int.toNat (s : Int)) IntKind.u64.bits = s := by simp [IntKind.bits]; omega
  rw [h, e, Int.fdiv_eq_ediv_of_nonneg _ (Int.le_of_lt (Int.pow_pos (by omega)))]
  simp
theorem u8_of {n : Nat} {z : Int} (h : z = IntKind.u8.wrap (n : Int)) : z = ((UInt8.ofNat n).toNat : Int) := by
  rw [h, IntKind.wrap_u8, UInt8.toNat_ofNat']
  omega
theorem BV_one1 (b : UInt8) : BV [b] = [.int .u8 b.toNat] := rfl

/-- what the words give, so far -/
def dig (s : S8) (i : Nat) : List UInt8 := (s.list.take i).flatMap W32.bytes
theorem dig_succ (s : S8) {i : Nat} (h : i < 8) : dig s (i + 1) = dig s i ++ (s.list.getD i 0).bytes := by
  rw [dig, List.take_add_one, S8.get_of_lt s h, List.flatMap_append]
  simp [dig]
theorem dig_length (s : S8) : ∀ i, i ≤ 8 → (dig s i).length = 4 * i
  | 0, _ => rfl
  | i + 1, h => by rw [dig_succ s (by omega), List.length_append, dig_length s i (by omega)]; show 4 * i + 4 = _; omega
theorem dig_full (s : S8) : dig s 8 = s.bytes := rfl

set_option maxRecDepth 100000 in
set_option maxHeartbeats 4000000 in
theorem StSum_ok (R : Rd) (hG : ShaG R) (g : Nat) (x : List UInt8) (cs : List Value) (hx : x.length ≤ 1152921504606846976) (hcs : ShaSt x cs) :
    Fn Tryd.prog 53 [.pointer (some ⟨g, 0, .none⟩)] [.blk g 138 cs] R (fun v h => v = .string ⟨⟨sha x⟩⟩ ∧ h = [.blk g 138 cs]) := by
  obtain ⟨buf, rest, hbuf, hone, hbr, rfl⟩ := hcs
  have hML := maxLen_eq
  have hcl : (stC (blocks (x.length / 64) shaH0 x).list buf x.length).length = 73 := by rw [stC_length, S8.list_length, hbuf]
  have hall : allOne (stC (blocks (x.length / 64) shaH0 x).list buf x.length) = true := allOne_of fun u hu => by
    rw [stC] at hu
    rcases List.mem_append.1 hu with hu | hu
    · obtain ⟨w, _, rfl⟩ := List.mem_map.1 hu; rfl
    · rcases List.mem_append.1 hu with hu | hu
      · exact hone u hu
      · rw [List.mem_singleton.1 hu]; rfl
  refine fn_of_vc mixed tabOk Tryd.func53 rfl (by kernel_rfl) (Nat.le_of_ble_eq_true rfl) ?_
  refine ⟨stC (blocks (x.length / 64) shaH0 x).list buf x.length, rdPre (ys := []) 0 (by rw [List.append_nil]; rfl), hcl, ?_⟩
  intro g3
  refine ⟨hcl, hall, 1, rfl, rfl, Nat.le_of_eq (by show 0 + (stC _ _ _).length = _; rw [hcl]; rfl), ?_⟩
  show setHK (.blk g3 _ (setRange _ 0 (stC (blocks (x.length / 64) shaH0 x).list buf x.length))) 1 _ _
  rw [setRange_all (by rw [hcl]; rfl)]
  refine ⟨rfl, fun g4 => ?_⟩
  refine ⟨[none, none, none, none, some 4, none, none, none, none, none, none, none, none, none, some 14, some 15, some 16, some 17, some 18, some 19, some 20, some 21, some 22, some 23, some 24, some 25], [4], Option Addr × Nat × Nat, fun ⟨A, cap, k⟩ => grow (k + 1) A ∧ k ≤ padZ x.length, fun ⟨A, cap, k⟩ => [.slice A (k + 1) cap],
    fun ⟨A, cap, k⟩ => [.blk g 138 (stC (blocks (x.length / 64) shaH0 x).list buf x.length), .blk g3 138 (stC (blocks (x.length / 64) shaH0 x).list buf x.length), .row A (k + 1) cap 5 1 (BV (128 :: List.replicate k 0)) (0, 0)], fun ⟨A, cap, k⟩ => padZ x.length - k,
    (some ⟨g4, 0, .none⟩, 1, 0), ⟨.inr ⟨g4, rfl⟩, Nat.zero_le _⟩, ⟨rfl, trivial⟩, Ent.refl _, ?_⟩
  rintro ⟨A, cap, k⟩ ⟨hg, hk⟩ js
  have hpz := padZ_lt x.length
  refine ⟨_, ld 0 rfl (stC_len rfl hbuf), ?_⟩
  (intro z hz; obtain rfl : z = ((x.length + (k + 1) : Nat) : Int) := (by first | (rw [IntKind.wrap_i64] at hz; omega) | (rw [IntKind.wrap_u64] at hz; omega) | omega); clear hz)
  refine ⟨by decide, ?_⟩
  intro z hz; obtain rfl : z = (((x.length + (k + 1)) % 64 : Nat) : Int) := hz
  refine ⟨fun hb => ?_, fun hb => ?_⟩
  · replace hb := of_decide_eq_false (Bool.not_eq_true' _ ▸ hb)
    have hlt : k < padZ x.length := by unfold padZ at hk hpz ⊢; omega
    clear hb
    refine ⟨rfl, fun g5 => ?_⟩
    refine ⟨BV [0], rfl, rdRow 3 rfl, rfl, by show (_ + _) * 1 ≤ _; omega, by omega, .inr ⟨2, rfl, rfl, rfl, rfl, rfl, rfl, fun A' cap' hg' => ?_⟩⟩
    refine ⟨rfl, (A', cap', k + 1), ⟨hg', hlt⟩, by show padZ x.length - (k + 1) < padZ x.length - k; omega, ⟨rfl, trivial⟩, ?_, rfl⟩
    have e : BV (128 :: List.replicate k 0) ++ BV [0] = BV (128 :: List.replicate (k + 1) 0) := by
      rw [← BV_append, List.cons_append, ← List.replicate_succ' (n := k)]
    show Ent [_, _, .row A' (k + 1 + 1) cap' _ 1 (BV (128 :: List.replicate k 0) ++ BV [0]) _, _] _
    rw [e]
    exact Ent.drop [_, _, _] [_]
  · replace hb := of_decide_eq_true (Bool.not_eq_false' _ ▸ hb)
    have hkz : k = padZ x.length := by unfold padZ at hk hpz ⊢; omega
    subst hkz
    clear hb
    refine ⟨_, ld 0 rfl (stC_len rfl hbuf), ?_⟩
    (intro z hz; obtain rfl : z = ((x.length : Nat) : Int) := (by first | (rw [IntKind.wrap_i64] at hz; omega) | (rw [IntKind.wrap_u64] at hz; omega) | omega); clear hz)
    (intro z hz; obtain rfl : z = ((8 * x.length : Nat) : Int) := (by first | (rw [IntKind.wrap_i64] at hz; omega) | (rw [IntKind.wrap_u64] at hz; omega) | omega); clear hz)
    refine ⟨[none, none, none, none, some 4, none, some 6, none, none, none, none, none, none, none, none, none, none, none, none, none, none, none, none, none, none, none, none, none, none, none, none, none, some 32, some 33, some 34, some 35, some 36, some 37, some 38, some 39, some 40, some 41, some 42], [4, 6], Option Addr × Nat × Nat, fun ⟨A, cap, j⟩ => grow (padZ x.length + 1 + j) A ∧ j ≤ 8, fun ⟨A, cap, j⟩ => [.slice A (padZ x.length + 1 + j) cap, .int .i64 (56 - 8 * (j : Int))],
      fun ⟨A, cap, j⟩ => [.blk g 138 (stC (blocks (x.length / 64) shaH0 x).list buf x.length), .blk g3 138 (stC (blocks (x.length / 64) shaH0 x).list buf x.length), .row A (padZ x.length + 1 + j) cap 5 1 (BV (128 :: (List.replicate (padZ x.length) 0 ++ (be64 (8 * x.length)).take j))) (0, 0)], fun ⟨A, cap, j⟩ => 8 - j,
      (A, cap, 0), ⟨hg, Nat.zero_le _⟩, ⟨rfl, rfl, trivial⟩, by simp only [List.take_zero, List.append_nil]; exact Ent.refl _, ?_⟩
    clear hg hk
    rintro ⟨A, cap, j⟩ ⟨hg, hj⟩ js2
    refine ⟨fun hb => ?_, fun hb => ?_⟩
    · replace hb := of_decide_eq_true hb
      have hj8 : j < 8 := by omega
      clear hb
      have e56 : (56 - 8 * (j : Int)) = ((56 - 8 * j : Nat) : Int) := by omega
      rw [e56]
      refine ⟨by omega, ?_⟩
      intro z hz
      obtain rfl := u64_shr (by omega) hz
      clear hz
      intro z hz
      obtain rfl := u8_of hz
      clear hz
      refine ⟨rfl, fun g5 => ?_⟩
      refine ⟨BV [UInt8.ofNat (8 * x.length / 2 ^ (56 - 8 * j))], rfl, rdRow 3 rfl, rfl, by show (_ + _) * 1 ≤ _; omega, by omega, .inr ⟨2, rfl, rfl, rfl, rfl, rfl, rfl, fun A' cap' hg' => ?_⟩⟩
      intro z hz
      obtain rfl : z = 56 - 8 * ((j + 1 : Nat) : Int) := by rw [IntKind.wrap_i64] at hz; omega
      clear hz
      refine ⟨rfl, (A', cap', j + 1), ⟨hg', hj8⟩, by show 8 - (j + 1) < 8 - j; omega, ⟨rfl, rfl, trivial⟩, ?_, rfl⟩
      have e : BV (128 :: (List.replicate (padZ x.length) 0 ++ (be64 (8 * x.length)).take j)) ++ BV [UInt8.ofNat (8 * x.length / 2 ^ (56 - 8 * j))] = BV (128 :: (List.replicate (padZ x.length) 0 ++ (be64 (8 * x.length)).take (j + 1))) := by
        rw [← BV_append, List.take_add_one, be64_take hj8]; simp
      show Ent [_, _, .row A' (padZ x.length + 1 + j + 1) cap' _ 1 (_ ++ BV [UInt8.ofNat (8 * x.length / 2 ^ (56 - 8 * j))]) _, _] _
      rw [e]
      exact Ent.drop [_, _, _] [_]
    · replace hb := of_decide_eq_false hb
      obtain rfl : j = 8 := by omega
      clear hb
      have hpad : 128 :: (List.replicate (padZ x.length) 0 ++ (be64 (8 * x.length)).take 8) = padOf x.length := by
        rw [padOf, Nat.mod_eq_of_lt (show 8 * x.length < 2 ^ 64 by omega)]; rfl
      have hpl : padZ x.length + 1 + 8 = (padOf x.length).length := by rw [padOf_length]; omega
      have hW : ∀ R' : Rd, ShaG R' → BsR R' (.slice A (padOf x.length).length cap) (padOf x.length) → (padOf x.length).length ≤ cap → Fn Tryd.prog 52 [.pointer (some ⟨g3, 0, .none⟩), .slice A (padZ x.length + 1 + 8) cap] [.blk g3 138 (stC (blocks (x.length / 64) shaH0 x).list buf x.length)] R' (fun _ h => ∃ cs', h = [.blk g3 138 cs'] ∧ ShaSt (x ++ padOf x.length) cs') := fun R' h1 h2 h3 => by
        rw [hpl]
        exact Write_ok R' h1 g3 x (padOf x.length) A cap _ (by omega) h3 h2 ⟨buf, rest, hbuf, hone, hbr, rfl⟩
      refine ⟨[1, 1], _, fn_row 1 rfl (callable Tryd.func52 rfl (by kernel_rfl)) fun hcap _ => Fn.frame (h := [_]) (k := [_]) (hW _ ((hG.rh _).rh _) (by rw [← hpl]; exact BsR.own 0 rfl hpl (by rw [hpad]) hg) (by omega)), ?_⟩
      rintro _ _ ⟨_, rfl, cs', rfl, buf', rest', hbuf', hone', hbr', rfl⟩
      refine ⟨by decide, by decide, by decide, by omega, fun g5 => ?_⟩
      refine ⟨WV (blocks ((x ++ padOf x.length).length / 64) shaH0 (x ++ padOf x.length)).list, rdPre 2 rfl, rfl, ?_⟩
      generalize hsE : blocks ((x ++ padOf x.length).length / 64) shaH0 (x ++ padOf x.length) = s
      refine ⟨[none, none, none, none, none, none, none, some 7, none, some 9, none, none, none, none, none, none, none, none, none, none, none, none, none, none, none, none, none, none, none, none, none, none, none, none, none, none, none, none, none, none, none, none, none, none, none, none, none, none, some 48, some 49, some 50, some 51, some 52, some 53, some 54, some 55, some 56, some 57, some 58, some 59, some 60, some 61, some 62, some 63, some 64, some 65], [48, 7], Nat × Option Addr × Nat, fun ⟨i, A, cap⟩ => i ≤ 8 ∧ grow (4 * i) A, fun ⟨i, A, cap⟩ => [.int .i64 i, .slice A (4 * i) cap],
        fun ⟨i, A2, cap2⟩ => [.blk g 138 (stC (blocks (x.length / 64) shaH0 x).list buf x.length), .row A (padZ x.length + 1 + 8) cap 5 1 (BV (128 :: (List.replicate (padZ x.length) 0 ++ (be64 (8 * x.length)).take 8))) (0, 0), .blk g3 138 (stC s.list buf' (x ++ padOf x.length).length), .row A2 (4 * i) cap2 5 1 (BV (dig s i)) (0, 0)],
        fun ⟨i, _, _⟩ => 8 - i, (0, some ⟨g5, 0, .none⟩, 32), ⟨Nat.zero_le _, .inl rfl⟩, ⟨rfl, rfl, trivial⟩, Ent.refl _, ?_⟩
      rintro ⟨i, A2, cap2⟩ ⟨hi, hg2⟩ js3
      refine ⟨fun hb => ?_, fun hb => ?_⟩
      · replace hb := of_decide_eq_true hb
        have hi8 : i < 8 := by omega
        clear hb
        refine ⟨by omega, by omega, nthK_mk (x := .int .u32 (s.list.getD i 0).toNat) (by show (WV s.list)[Int.toNat (i : Int) * 1]? = _; rw [toNat1]; exact WV_get (S8.get_of_lt s hi8)) ?_⟩
        (refine ⟨by decide, ?_⟩; intro z hz; obtain rfl := bv_shr (n := 24) (by omega) hz; clear hz)
        intro z hz; obtain rfl := bv_u8 hz; clear hz
        (refine ⟨by decide, ?_⟩; intro z hz; obtain rfl := bv_shr (n := 16) (by omega) hz; clear hz)
        intro z hz; obtain rfl := bv_u8 hz; clear hz
        (refine ⟨by decide, ?_⟩; intro z hz; obtain rfl := bv_shr (n := 8) (by omega) hz; clear hz)
        intro z hz; obtain rfl := bv_u8 hz; clear hz
        intro z hz; obtain rfl := bv_u8' hz; clear hz
        refine ⟨rfl, fun g6 => ?_⟩
        refine ⟨BV (s.list.getD i 0).bytes, rfl, rdRow 4 rfl, BV_one _, by show (_ + _) * 1 ≤ _; omega, by omega, .inr ⟨3, rfl, rfl, rfl, rfl, rfl, rfl, fun A' cap' hg' => ?_⟩⟩
        (intro z hz; obtain rfl : z = ((i + 1 : Nat) : Int) := (by first | (rw [IntKind.wrap_i64] at hz; omega) | (rw [IntKind.wrap_u64] at hz; omega) | omega); clear hz)
        refine ⟨rfl, (i + 1, A', cap'), ⟨hi8, hg'⟩, by show 8 - (i + 1) < 8 - i; omega, ⟨rfl, rfl, trivial⟩, ?_, rfl⟩
        show Ent [_, _, _, .row A' (4 * i + 4) cap' _ 1 (BV (dig s i) ++ BV (s.list.getD i 0).bytes) _, _] [_, _, _, .row A' (4 * (i + 1)) cap' _ 1 (BV (dig s (i + 1))) _]
        rw [← BV_append, dig_succ s hi8]
        exact Ent.drop [_, _, _, _] [_]
      · replace hb := of_decide_eq_false hb
        obtain rfl : i = 8 := by omega
        clear hb
        have hdl := dig_length s 8 (Nat.le_refl _)
        refine ⟨dig s 8, hdl, fun j b hj => (BsR.own (bs := dig s 8) 3 rfl hdl.symm rfl hg2).at_ hj, ?_⟩
        refine ⟨_, Ent.drop [_] [_, _, _], ?_, rfl⟩
        rw [dig_full, ← hsE]
        rfl

theorem Sum_ok (R : Rd) (hG : ShaG R) (x : List UInt8) (A : Option Addr) (cap : Nat) (hx : x.length ≤ 1152921504606846976) (hcap : x.length ≤ cap) (hs : BsR R (.slice A x.length cap) x) :
    Fn Tryd.prog 60 [.slice A x.length cap] [] R (fun v h => v = .string ⟨⟨sha x⟩⟩ ∧ h = []) := by
  refine fn_of_vc mixed tabOk Tryd.func60 rfl (by kernel_rfl) (Nat.le_of_ble_eq_true rfl) ?_
  refine ⟨[], _, New_ok _ (hG.rh _), ?_⟩
  rintro _ _ ⟨g, cs, rfl, rfl, hcs⟩
  refine ⟨[0], _, Write_ok _ (hG.rh _) g [] x A cap cs (by simp; omega) hcap (hs.rh _) hcs, ?_⟩
  rintro _ _ ⟨cs', rfl, hcs'⟩
  refine ⟨[0], _, StSum_ok _ (hG.rh _) g x cs' hx hcs', ?_⟩
  rintro _ _ ⟨rfl, rfl⟩
  exact ⟨_, Ent.drop [] [_], rfl, rfl⟩

/-- Texts as cells. -/
def SV (l : List (List UInt8)) : List Value := l.map fun s => .string ⟨⟨s⟩⟩
theorem SV_length (l : List (List UInt8)) : (SV l).length = l.length := by simp [SV]
theorem SV_get {l : List (List UInt8)} {i : Nat} {s : List UInt8} (h : l[i]? = some s) : (SV l)[i]? = some (.string ⟨⟨s⟩⟩) := by simp [SV, h]
theorem SV_append (a b : List (List UInt8)) : SV (a ++ b) = SV a ++ SV b := by simp [SV]
/-- A slice of texts. -/
def SsR (R : Rd) (v : Value) (l : List (List UInt8)) : Prop := SlR R 1 v l.length (SV l)
theorem SsR.rh {R : Rd} {v : Value} {l : List (List UInt8)} (h : SsR R v l) (hp : Hp) : SsR (RH R hp) v l := SlR.rh h hp
theorem SsR.mono {R R' : Rd} {v : Value} {l : List (List UInt8)} (h : SsR R v l) (hr : ∀ a v, R a v → R' a v) : SsR R' v l := SlR.mono h hr
theorem SsR.form {R : Rd} {v : Value} {l : List (List UInt8)} (h : SsR R v l) : ∃ A cap, v = .slice A l.length cap := SlR.slice h
theorem SsR.at_ {R : Rd} {A : Option Addr} {n cap : Nat} {l : List (List UInt8)} (h : SsR R (.slice A n cap) l) {i : Nat} {s : List UInt8} (hb : l[i]? = some s) : ∃ a, A = some a ∧ R (a.add i) (.string ⟨⟨s⟩⟩) := by
  obtain ⟨_, A', cap', hv, hr⟩ := h
  cases hv
  exact hr i _ (SV_get hb)
theorem SsR.one {R : Rd} {A : Option Addr} {n cap : Nat} {l : List (List UInt8)} (h : SsR R (.slice A n cap) l) {i : Nat} (hi : i < l.length) : ∃ a, A = some a ∧ R (addA a (Int.toNat (i : Int) * 1)) (.string ⟨⟨l.getD i []⟩⟩) := by
  have hb : l[i]? = some (l.getD i []) := by rw [List.getD_eq_getElem?_getD, List.getElem?_eq_getElem hi]; rfl
  obtain ⟨a, ha, hr⟩ := h.at_ hb
  exact ⟨a, ha, by rw [toNat1, ← addA_eq]; exact hr⟩
theorem SsR.src {R : Rd} {A : Option Addr} {n cap : Nat} {l : List (List UInt8)} (h : SsR R (.slice A n cap) l) : ∀ j u, (SV l)[j]? = some u → ∃ a, A = some a ∧ R (a.add j) u := by
  obtain ⟨_, A', cap', hv, hr⟩ := h
  cases hv
  exact hr
theorem SV_one (l : List (List UInt8)) : allOne (SV l) = true := allOne_of fun u hu => by
  obtain ⟨b, _, rfl⟩ := List.mem_map.1 hu; rfl

/-- the bytes of the first texts -/
def cat (l : List (List UInt8)) : List UInt8 := l.flatten

theorem Join_ok (R : Rd) (hG : ShaG R) (l : List (List UInt8)) (A : Option Addr) (cap : Nat) (hx : (cat l).length ≤ 1152921504606846976) (hl : l.length ≤ 1152921504606846976) (hs : SsR R (.slice A l.length cap) l) :
    Fn Tryd.prog 37 [.slice A l.length cap] [] R (fun v h => v = .string ⟨⟨sha (cat l)⟩⟩ ∧ h = []) := by
  have hML := maxLen_eq
  refine fn_of_vc mixed tabOk Tryd.func37 rfl (by kernel_rfl) (Nat.le_of_ble_eq_true rfl) ?_
  refine ⟨[], _, New_ok _ (hG.rh _), ?_⟩
  rintro _ _ ⟨g, cs, rfl, rfl, hcs⟩
  refine ⟨[none, none, none, none, none, some 5, none, none, none, some 9, some 10, some 11, some 12, some 13, some 14, some 15, some 16, some 17], [9], Nat × List Value, fun ⟨i, cs⟩ => i ≤ l.length ∧ ShaSt (cat (l.take i)) cs, fun ⟨i, _⟩ => [.int .i64 i], fun ⟨_, cs⟩ => [.blk g 138 cs], fun ⟨i, _⟩ => l.length - i, (0, cs), ⟨Nat.zero_le _, hcs⟩, ⟨rfl, trivial⟩, Ent.refl _, ?_⟩
  clear hcs
  rintro ⟨i, cs⟩ ⟨hi, hcs⟩ js
  refine ⟨fun hb => ?_, fun hb => ?_⟩
  · replace hb := of_decide_eq_true hb
    have hil : i < l.length := by omega
    clear hb
    obtain ⟨a, ha, hr⟩ := hs.one hil
    refine ⟨by omega, by omega, a, ha, _, .inl hr, ?_⟩
    have hcat : cat (l.take (i + 1)) = cat (l.take i) ++ l.getD i [] := by
      rw [List.take_add_one, List.getD_eq_getElem?_getD, List.getElem?_eq_getElem hil]
      show List.flatten (l.take i ++ [l[i]]) = List.flatten (l.take i) ++ l[i]
      rw [List.flatten_append]; simp
    have hlen : (cat (l.take i)).length + (l.getD i []).length ≤ (cat l).length := by
      rw [← List.length_append, ← hcat]
      have : cat l = cat (l.take (i + 1)) ++ cat (l.drop (i + 1)) := by simp only [cat]; rw [← List.flatten_append, List.take_append_drop]
      rw [this, List.length_append]; omega
    refine ⟨show (l.getD i []).length ≤ maxLen by omega, fun g2 cap2 => ?_⟩
    refine ⟨[0, 0], _, fn_row 1 rfl (callable Tryd.func52 rfl (by kernel_rfl)) fun hcap _ => Fn.frame (h := [_]) (k := [_]) (Write_ok _ ((hG.rh _).rh _) g (cat (l.take i)) (l.getD i []) (some ⟨g2, 0, .none⟩) cap2 cs (by omega) hcap ?_ hcs), ?_⟩
    · exact SlR.own 0 rfl (by rw [BV_length, Nat.mul_one]) (.inr ⟨g2, rfl⟩)
    rintro _ _ ⟨_, rfl, cs', rfl, hcs'⟩
    (intro z hz; obtain rfl : z = ((i + 1 : Nat) : Int) := (by first | (rw [IntKind.wrap_i64] at hz; omega) | (rw [IntKind.wrap_u64] at hz; omega) | omega); clear hz)
    refine ⟨rfl, (i + 1, cs'), ⟨hil, by rw [hcat]; exact hcs'⟩, by show l.length - (i + 1) < l.length - i; omega, ⟨rfl, trivial⟩, Ent.dropr [_] [_], rfl⟩
  · replace hb := of_decide_eq_false hb
    obtain rfl : i = l.length := by omega
    clear hb
    rw [List.take_length] at hcs
    refine ⟨[0], _, StSum_ok _ (hG.rh _) g (cat l) cs hx hcs, ?_⟩
    rintro _ _ ⟨rfl, rfl⟩
    exact ⟨_, Ent.drop [] [_], rfl, rfl⟩

end Go.Proofs.YtgnmbgbiajgpeaaDoor
