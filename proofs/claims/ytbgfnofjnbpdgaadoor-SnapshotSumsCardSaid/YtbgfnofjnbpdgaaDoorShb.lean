/-
  Contracts: rotations of words; a block of SHA-256 (package sha256).
-/
import Derived.Test.YtbgfnofjnbpdgaaDoorSha
import Derived.Test.YtbgfnofjnbpdgaaDoorTab
import Derived.Test.YtbgfnofjnbpdgaaDoorVcl
namespace Go.Proofs.YtbgfnofjnbpdgaaDoor
open Go Go.RowKit

/-! ### small words -/
theorem addA_mk (g o n : Nat) : addA ⟨g, o, .none⟩ n = ⟨g, o + n, .none⟩ := by cases n <;> simp [addA]
theorem addA_add (a : Addr) (i j : Nat) : addA (a.add i) j = a.add (i + j) := by rw [← addA_eq, add_add]
/-- a cell of a known block, at a computed place -/
theorem ldb {R : Rd} {h : Hp} (j : Nat) {g : Nat} {t : TypeId} {cs : List Value} {o i : Nat} {v : Value} (hi : h[j]? = some (.blk g t cs)) (hc : cs[o + i]? = some v) : RH R h (addA ⟨g, o, .none⟩ (Int.toNat (i : Int) * 1)) v := by
  rw [addA_mk, Int.toNat_natCast, Nat.mul_one]
  exact ld j hi hc
theorem stb {g o i : Nat} {t : TypeId} {cs : List Value} {v : Value} {K : HA → Prop} (h1 : o + i < cs.length) (hK : K (.blk g t (cs.set (o + i) v))) : stE (.blk g t cs) (addA ⟨g, o, .none⟩ (Int.toNat (i : Int) * 1)) [v] K := by
  rw [addA_mk, Int.toNat_natCast, Nat.mul_one]
  exact ⟨rfl, rfl, h1, hK⟩
theorem ldb0 {R : Rd} {h : Hp} (j : Nat) {g : Nat} {t : TypeId} {cs : List Value} {i : Nat} {v : Value} (hi : h[j]? = some (.blk g t cs)) (hc : cs[i]? = some v) : RH R h (addA ⟨g, 0, .none⟩ (Int.toNat (i : Int) * 1)) v := by
  rw [addA_mk, Int.toNat_natCast, Nat.mul_one, Nat.zero_add]
  exact ld j hi hc
theorem stb0 {g i : Nat} {t : TypeId} {cs : List Value} {v : Value} {K : HA → Prop} (h1 : i < cs.length) (hK : K (.blk g t (cs.set i v))) : stE (.blk g t cs) (addA ⟨g, 0, .none⟩ (Int.toNat (i : Int) * 1)) [v] K := by
  rw [addA_mk, Int.toNat_natCast, Nat.mul_one, Nat.zero_add]
  exact ⟨rfl, rfl, h1, hK⟩
/-- the first cells of a known block -/
theorem rdPre {R : Rd} {h : Hp} (i : Nat) {g : Nat} {t : TypeId} {xs ys : List Value} (hi : h[i]? = some (.blk g t (xs ++ ys))) : RdN (RH R h) ⟨g, 0, .none⟩ xs := by
  intro j u hu
  rw [add_zero_addr]
  refine ld i hi ?_
  rw [List.getElem?_append_left (List.getElem?_eq_some_iff.1 hu).1]; exact hu
theorem rh_cons {R : Rd} {x : HA} {r : Hp} {a : Addr} {v : Value} (h : RH R [x] a v) : RH R (x :: r) a v := by
  rcases h with h | ⟨y, hy, hc⟩
  · exact .inl h
  · exact .inr ⟨y, by rw [List.mem_singleton.1 hy]; simp, hc⟩
theorem nthK_mk {α : Type} {K : α → Prop} : ∀ {l : List α} {n : Nat} {x : α}, l[n]? = some x → K x → nthK K l n
  | _ :: _, 0, _, h, hK => by simp only [List.getElem?_cons_zero, Option.some.injEq] at h; subst h; exact hK
  | [], _, _, h, _ => by simp at h
  | _ :: l, n + 1, x, h, hK => by simp only [nthK]; exact nthK_mk (by simpa using h) hK
theorem toNat1 (i : Nat) : Int.toNat (i : Int) * 1 = i := by simp

/-- Words as cells. -/
def WV (l : List W32) : List Value := l.map fun w => .int .u32 w.toNat
theorem WV_length (l : List W32) : (WV l).length = l.length := by simp [WV]
theorem WV_get {l : List W32} {i : Nat} {x : W32} (h : l[i]? = some x) : (WV l)[i]? = some (.int .u32 x.toNat) := by simp [WV, h]
theorem WV_set (l : List W32) (i : Nat) (x : W32) : (WV l).set i (.int .u32 x.toNat) = WV (l.set i x) := by simp [WV, List.map_set]
/-- The array of words, so far. -/
def wArr (b : List UInt8) (t : Nat) : List W32 := sched b t ++ List.replicate (64 - t) 0
theorem wArr_length (b : List UInt8) {t : Nat} (h : t ≤ 64) : (wArr b t).length = 64 := by simp [wArr, sched_length]; omega
theorem wArr_get (b : List UInt8) {i t : Nat} (h : i < t) : (wArr b t)[i]? = some ((sched b t).getD i 0) := by
  rw [wArr, List.getElem?_append_left (by rw [sched_length]; exact h), List.getD_eq_getElem?_getD]
  have : i < (sched b t).length := by rw [sched_length]; exact h
  rw [List.getElem?_eq_getElem this]; rfl
theorem wArr_set (b : List UInt8) {t : Nat} (h : t < 64) {x : W32} (hx : x = if t < 16 then wordAt b t else schedStep (sched b t) t) : (wArr b t).set t x = wArr b (t + 1) := by
  rw [wArr, List.set_append_right _ _ (by rw [sched_length]; omega), sched_length, Nat.sub_self, show 64 - t = (64 - (t + 1)) + 1 by omega, List.replicate_succ, List.set_cons_zero, wArr, sched, hx]
  simp
theorem wArr_zero (b : List UInt8) : List.replicate 64 (Value.int .u32 0) = WV (wArr b 0) := by simp [WV, wArr, sched]
theorem wArr_full (b : List UInt8) : wArr b 64 = sched b 64 := by simp [wArr]

/-- What SHA-256's tables hold. -/
structure ShaG (R : Rd) : Prop where
  k : ∀ i, i < 64 → R ⟨1, i, .none⟩ (.int .u32 (shaK_at i).toNat)
  h : RdN R ⟨0, 0, .none⟩ (WV shaH0.list)
theorem ShaG.mono {R R' : Rd} (h : ShaG R) (hr : ∀ a v, R a v → R' a v) : ShaG R' := ⟨fun i hi => hr _ _ (h.k i hi), fun j v hv => hr _ _ (h.h j v hv)⟩
theorem ShaG.rh {R : Rd} (h : ShaG R) (hp : Hp) : ShaG (RH R hp) := h.mono fun _ _ => .inl

theorem ShaG.kk {R : Rd} (h : ShaG R) {hp : Hp} {i : Nat} (hi : i < 64) : RH R hp (addA ⟨1, 0, .none⟩ (Int.toNat (i : Int) * 1)) (.int .u32 (shaK_at i).toNat) := by
  rw [addA_mk, Int.toNat_natCast, Nat.mul_one, Nat.zero_add]
  exact .inl (h.k i hi)

theorem RotateLeft32_ok (R : Rd) (x : W32) (k : Int) (n : Nat) (h0 : 0 < n) (h1 : n < 32) (hk : bitsOp .and .u64 (IntKind.u64.wrap k) 31 = ((32 - n : Nat) : Int)) :
    Fn Tryd.prog 113 [.int .u32 x.toNat, .int .i64 k] [] R (fun v h => v = .int .u32 (rotr x n).toNat ∧ h = []) := by
  refine fn_of_vc mixed tabOk Tryd.func113 rfl (by kernel_rfl) (Nat.le_of_ble_eq_true rfl) ?_
  intro z hz
  subst hz
  intro z hz
  rw [hk] at hz
  subst hz
  refine ⟨by omega, ?_⟩
  intro z hz
  obtain rfl := bv_shl (by omega) hz
  clear hz
  intro z hz
  obtain rfl : z = (n : Int) := by rw [IntKind.wrap_u64] at hz; omega
  clear hz
  refine ⟨by omega, ?_⟩
  intro z hz
  obtain rfl := bv_shr (by omega) hz
  clear hz
  intro z hz
  obtain rfl := bv_or hz
  clear hz
  refine ⟨_, Ent.refl _, ?_, rfl⟩
  rw [rotr_eq]; rfl

theorem refrotr_ok (R : Rd) (x : W32) (n : Nat) (h0 : 0 < n) (h1 : n < 32) : Fn Tryd.prog 99 [.int .u32 x.toNat, .int .i64 n] [] R (fun v h => v = .int .u32 (rotr x n).toNat ∧ h = []) := by
  refine fn_of_vc mixed tabOk Tryd.func99 rfl (by kernel_rfl) (Nat.le_of_ble_eq_true rfl) ?_
  refine ⟨[], lexT 0 9, by kernel_rfl, ?_⟩
  refine ⟨by omega, ?_⟩
  intro z hz
  obtain rfl := bv_shr (by omega) hz
  clear hz
  intro z hz
  obtain rfl : z = ((32 - n : Nat) : Int) := by rw [IntKind.wrap_i64] at hz; omega
  clear hz
  refine ⟨by omega, ?_⟩
  intro z hz
  obtain rfl := bv_shl (by omega) hz
  clear hz
  intro z hz
  obtain rfl := bv_or hz
  clear hz
  exact ⟨_, Ent.refl _, rfl, rfl⟩

/-- Four bytes of a slice. -/
theorem BsR.four {R : Rd} {A : Option Addr} {n cap : Nat} {b : List UInt8} (h : BsR R (.slice A n cap) b) (hc : b.length ≤ cap) {l : Nat} (hl : l + 4 ≤ b.length) :
    ∃ a, sliceBase A cap l 1 = some a ∧ ∀ k, k < 4 → R (addA a k) (.int .u8 (b.getD (l + k) 0).toNat) := by
  have hb : ∀ k, k < 4 → b[l + k]? = some (b.getD (l + k) 0) := fun k hk => by
    rw [List.getD_eq_getElem?_getD, List.getElem?_eq_getElem (by omega)]; rfl
  obtain ⟨a, ha, _⟩ := h.at_ (hb 0 (by omega))
  subst ha
  refine ⟨a.add (l * 1), by rw [sliceBase, if_neg (by omega)]; rfl, fun k hk => ?_⟩
  obtain ⟨a', ha', hr⟩ := h.at_ (hb k hk)
  cases ha'
  rw [addA_add, Nat.mul_one]
  exact hr
/-- One byte of a slice. -/
theorem BsR.one {R : Rd} {A : Option Addr} {n cap : Nat} {b : List UInt8} (h : BsR R (.slice A n cap) b) {i : Nat} (hi : i < b.length) : ∃ a, A = some a ∧ R (addA a (Int.toNat (i : Int) * 1)) (.int .u8 (b.getD i 0).toNat) := by
  have hb : b[i]? = some (b.getD i 0) := by rw [List.getD_eq_getElem?_getD, List.getElem?_eq_getElem hi]; rfl
  obtain ⟨a, ha, hr⟩ := h.at_ hb
  exact ⟨a, ha, by rw [toNat1, ← addA_eq]; exact hr⟩

theorem shl_byte {l : List UInt8} {i n : Nat} : BitVec.ofNat 32 (l.getD i 0).toNat <<< n = byteW l i <<< n := rfl

end Go.Proofs.YtbgfnofjnbpdgaaDoor
