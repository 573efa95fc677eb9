/-
  Top: contracts of the field of 256 elements.
-/
import Derived.Test.YtgnmbgbiajgpeaaDoorTrc
namespace Go.Proofs.YtgnmbgbiajgpeaaDoor
open Go Go.RowKit
set_option linter.unusedVariables false
set_option linter.unusedSimpArgs false

theorem bv8 (c : UInt8) : BitVec.ofInt 8 (c.toNat : Int) = c.toBitVec := by rw [BitVec.ofInt_natCast]; simp
theorem bxor {a b : UInt8} {z : Int} (h : z = bitsOp .xor .u8 a.toNat b.toNat) : z = ((a ^^^ b).toNat : Int) := by
  rw [h]
  show IntKind.u8.wrap ((BitVec.ofInt 8 (a.toNat : Int) ^^^ BitVec.ofInt 8 (b.toNat : Int)).toNat : Int) = _
  rw [bv8, bv8, IntKind.wrap_u8]
  have := (a ^^^ b).toNat_lt
  show ((a ^^^ b).toNat : Int) % 256 = _
  omega
theorem band {a b : UInt8} {z : Int} (h : z = bitsOp .and .u8 a.toNat b.toNat) : z = ((a &&& b).toNat : Int) := by
  rw [h]
  show IntKind.u8.wrap ((BitVec.ofInt 8 (a.toNat : Int) &&& BitVec.ofInt 8 (b.toNat : Int)).toNat : Int) = _
  rw [bv8, bv8, IntKind.wrap_u8]
  have := (a &&& b).toNat_lt
  show ((a &&& b).toNat : Int) % 256 = _
  omega
theorem u8_nat (a : UInt8) : ∃ x : Fin 256, a = UInt8.ofNat x.val := ⟨⟨a.toNat, a.toNat_lt⟩, by simp⟩
theorem bshl1 {a : UInt8} {z : Int} (h : z = IntKind.u8.wrap ((a.toNat : Int) * 2 ^ (min (Int.toNat 1) IntKind.u8.bits))) : z = ((a <<< 1).toNat : Int) := by
  obtain ⟨x, rfl⟩ := u8_nat a
  rw [h]
  have : ∀ x : Fin 256, IntKind.u8.wrap (((UInt8.ofNat x.val).toNat : Int) * 2 ^ (min (Int.toNat 1) IntKind.u8.bits)) = ((UInt8.ofNat x.val <<< 1).toNat : Int) := by decide +kernel
  exact this x
theorem bshr1 {a : UInt8} {z : Int} (h : z = (a.toNat : Int).fdiv (2 ^ (min (Int.toNat 1) IntKind.u8.bits))) : z = ((a >>> 1).toNat : Int) := by
  obtain ⟨x, rfl⟩ := u8_nat a
  rw [h]
  have : ∀ x : Fin 256, ((UInt8.ofNat x.val).toNat : Int).fdiv (2 ^ (min (Int.toNat 1) IntKind.u8.bits)) = ((UInt8.ofNat x.val >>> 1).toNat : Int) := by decide +kernel
  exact this x
theorem bshr4 {a : UInt8} {z : Int} (h : z = (a.toNat : Int).fdiv (2 ^ (min (Int.toNat 4) IntKind.u8.bits))) : z = ((a >>> 4).toNat : Int) := by
  obtain ⟨x, rfl⟩ := u8_nat a
  rw [h]
  have : ∀ x : Fin 256, ((UInt8.ofNat x.val).toNat : Int).fdiv (2 ^ (min (Int.toNat 4) IntKind.u8.bits)) = ((UInt8.ofNat x.val >>> 4).toNat : Int) := by decide +kernel
  exact this x
theorem shr1_lt {b : UInt8} (h : ¬ b = 0) : (b >>> 1).toNat < b.toNat := by
  obtain ⟨x, rfl⟩ := u8_nat b
  have : ∀ x : Fin 256, ¬ UInt8.ofNat x.val = 0 → (UInt8.ofNat x.val >>> 1).toNat < (UInt8.ofNat x.val).toNat := by decide +kernel
  exact this x h
theorem shr4_lt (b : UInt8) : (b >>> 4).toNat < 16 := by
  obtain ⟨x, rfl⟩ := u8_nat b
  have : ∀ x : Fin 256, (UInt8.ofNat x.val >>> 4).toNat < 16 := by decide +kernel
  exact this x
theorem and15_lt (b : UInt8) : (b &&& 15).toNat < 16 := by
  obtain ⟨x, rfl⟩ := u8_nat b
  have : ∀ x : Fin 256, (UInt8.ofNat x.val &&& 15).toNat < 16 := by decide +kernel
  exact this x
theorem u8_zero {b : UInt8} : (b.toNat : Int) = 0 ↔ b = 0 := ⟨fun h => UInt8.toNat.inj (by show b.toNat = 0; omega), fun h => by rw [h]; rfl⟩

def gdbl (a : UInt8) : UInt8 := if a &&& 128 = 0 then a <<< 1 else (a <<< 1) ^^^ 29
def gmulL (p a b : UInt8) : UInt8 := if h : b = 0 then p else gmulL (if b &&& 1 = 1 then p ^^^ a else p) (gdbl a) (b >>> 1)
termination_by b.toNat
decreasing_by exact shr1_lt h
def gmul (a b : UInt8) : UInt8 := gmulL 0 a b
def ginvL : Nat → UInt8 → UInt8 → UInt8
  | 0, _, v => v
  | n + 1, a, v => ginvL n (gmul a a) (gmul v (gmul a a))
def ginv (a : UInt8) : UInt8 := if a = 0 then 0 else ginvL 7 a 1
def gsc (c a : UInt8) : UInt8 := gmul c (a &&& 15) ^^^ gmul c (UInt8.ofNat ((a >>> 4).toNat * 16))

/-- A list that is filled from the front. -/
def tabM (f g : Nat → UInt8) (n k : Nat) : Str := (List.range n).map fun i => if i < k then f i else g i
theorem tabM_length (f g : Nat → UInt8) (n k : Nat) : (tabM f g n k).length = n := by simp [tabM]
theorem tabM_get {f g : Nat → UInt8} {n k i : Nat} (h : i < n) : (tabM f g n k)[i]? = some (if i < k then f i else g i) := by simp [tabM, h]
theorem tabM_set {f g : Nat → UInt8} {n k : Nat} : (tabM f g n k).set k (f k) = tabM f g n (k + 1) := by
  apply List.ext_getElem?
  intro i
  rw [List.getElem?_set]
  by_cases hi : i < n
  · have h1 : (tabM f g n k)[i]? = some (if i < k then f i else g i) := tabM_get hi
    have h2 : (tabM f g n (k + 1))[i]? = some (if i < k + 1 then f i else g i) := tabM_get hi
    rw [h1, h2, tabM_length]
    by_cases e : k = i
    · subst e
      rw [if_pos rfl, if_pos hi, if_pos (Nat.lt_succ_self k)]
    · rw [if_neg e]
      by_cases c : i < k
      · rw [if_pos c, if_pos (by omega)]
      · rw [if_neg c, if_neg (by omega)]
  · have h1 : ∀ m, (tabM f g n m)[i]? = none := fun m => List.getElem?_eq_none (by rw [tabM_length]; omega)
    rw [h1, h1, tabM_length]
    by_cases e : k = i
    · rw [if_pos e, if_neg (by omega)]
    · rw [if_neg e]
theorem tabM_setV {f g : Nat → UInt8} {n k : Nat} : (BV (tabM f g n k)).set k (.int .u8 (f k).toNat) = BV (tabM f g n (k + 1)) := by
  rw [← tabM_set]; simp [BV, List.map_set]
theorem tabM_zero {n : Nat} {f : Nat → UInt8} : BV (tabM f (fun _ => 0) n 0) = List.replicate n (.int .u8 0) := by
  apply List.ext_getElem?
  intro i
  by_cases hi : i < n
  · rw [BV_get (tabM_get hi), if_neg (by omega), List.getElem?_replicate, if_pos hi]; rfl
  · rw [List.getElem?_eq_none (by rw [BV_length, tabM_length]; omega), List.getElem?_eq_none (by rw [List.length_replicate]; omega)]
theorem tabM_full {f g : Nat → UInt8} {n : Nat} : tabM f g n n = (List.range n).map f := by
  unfold tabM
  exact List.map_congr_left fun i hi => if_pos (List.mem_range.1 hi)
theorem tabM_none {f g : Nat → UInt8} {n : Nat} : tabM f g n 0 = (List.range n).map g := by
  unfold tabM
  exact List.map_congr_left fun i hi => if_neg (by omega)

theorem double_ok (R : Rd) (a : UInt8) : Fn Tryd.prog 99 [.int .u8 a.toNat] [] R (fun v h => v = .int .u8 (gdbl a).toNat ∧ h = []) := by
  refine fn_of_vc mixed tabOk Tryd.func99 rfl (by kernel_rfl) (Nat.le_of_ble_eq_true rfl) ?_
  intro z hz
  obtain rfl := band (b := 128) hz
  clear hz
  by_cases c : a &&& 128 = 0
  · have e : gdbl a = a <<< 1 := if_pos c
    have c2 := u8_zero.2 c
    generalize (((a &&& 128).toNat : Nat) : Int) = m at c2
    clear c
    repeat (first | (refine ⟨fun h => ?_, fun h => ?_⟩; rotate_left 1; (focus (exfalso; (first | (with_reducible (cases h; done)) | (revert h; simp; done) | (revert h; simp; omega) | (revert h; simp [*]; done)))); clear h) | (refine ⟨fun h => ?_, fun h => ?_⟩; (focus (exfalso; (first | (with_reducible (cases h; done)) | (revert h; simp; done) | (revert h; simp; omega) | (revert h; simp [*]; done)))); clear h))
    refine ⟨by decide, ?_⟩
    intro z hz
    obtain rfl := bshl1 hz
    exact ⟨_, Ent.refl _, by rw [e]; rfl, rfl⟩
  · have e : gdbl a = (a <<< 1) ^^^ 29 := if_neg c
    have c2 : ¬ ((a &&& 128).toNat : Int) = 0 := fun h => c (u8_zero.1 h)
    generalize (((a &&& 128).toNat : Nat) : Int) = m at c2
    clear c
    repeat (first | (refine ⟨fun h => ?_, fun h => ?_⟩; rotate_left 1; (focus (exfalso; (first | (with_reducible (cases h; done)) | (revert h; simp; done) | (revert h; simp; omega) | (revert h; simp [*]; done)))); clear h) | (refine ⟨fun h => ?_, fun h => ?_⟩; (focus (exfalso; (first | (with_reducible (cases h; done)) | (revert h; simp; done) | (revert h; simp; omega) | (revert h; simp [*]; done)))); clear h))
    refine ⟨by decide, ?_⟩
    intro z hz
    obtain rfl := bshl1 hz
    intro z hz
    obtain rfl := bxor (b := 29) hz
    exact ⟨_, Ent.refl _, by rw [e]; rfl, rfl⟩
set_option maxRecDepth 100000 in
theorem Mul_ok (R : Rd) (a b : UInt8) : Fn Tryd.prog 97 [.int .u8 a.toNat, .int .u8 b.toNat] [] R (fun v h => v = .int .u8 (gmul a b).toNat ∧ h = []) := by
  refine fn_of_vc mixed tabOk Tryd.func97 rfl (by kernel_rfl) (Nat.le_of_ble_eq_true rfl) ?_
  refine ⟨[some 0, some 1, none, none, none, some 5, some 6, some 7, some 8, some 9, some 10, some 11, some 12, some 13, some 14, some 15, some 16, some 17], [0, 1, 5], UInt8 × UInt8 × UInt8, fun ⟨x, y, p⟩ => gmulL p x y = gmul a b, fun ⟨x, y, p⟩ => [.int .u8 x.toNat, .int .u8 y.toNat, .int .u8 p.toNat], fun _ => [], fun ⟨_, y, _⟩ => y.toNat, (a, b, 0), rfl, ⟨rfl, rfl, rfl, trivial⟩, Ent.refl _, ?_⟩
  rintro ⟨x, y, p⟩ he js
  have he : gmulL p x y = gmul a b := he
  by_cases c : y = 0
  · have c2 := u8_zero.2 c
    repeat (first | (refine ⟨fun h => ?_, fun h => ?_⟩; rotate_left 1; (focus (exfalso; (first | (with_reducible (cases h; done)) | (revert h; simp; done) | (revert h; simp; omega) | (revert h; simp [*]; done)))); clear h) | (refine ⟨fun h => ?_, fun h => ?_⟩; (focus (exfalso; (first | (with_reducible (cases h; done)) | (revert h; simp; done) | (revert h; simp; omega) | (revert h; simp [*]; done)))); clear h))
    refine ⟨_, Ent.refl _, ?_, rfl⟩
    rw [← he, c]
    unfold gmulL
    rw [dif_pos rfl]; rfl
  have c2 : ¬ (y.toNat : Int) = 0 := fun h => c (u8_zero.1 h)
  rw [gmulL, dif_neg c] at he
  repeat (first | (refine ⟨fun h => ?_, fun h => ?_⟩; rotate_left 1; (focus (exfalso; (first | (with_reducible (cases h; done)) | (revert h; simp; done) | (revert h; simp; omega) | (revert h; simp [*]; done)))); clear h) | (refine ⟨fun h => ?_, fun h => ?_⟩; (focus (exfalso; (first | (with_reducible (cases h; done)) | (revert h; simp; done) | (revert h; simp; omega) | (revert h; simp [*]; done)))); clear h))
  intro z hz
  obtain rfl := band (b := 1) hz
  clear hz
  by_cases d : y &&& 1 = 1
  · have d2 : ((y &&& 1).toNat : Int) = 1 := by rw [d]; rfl
    rw [if_pos d] at he
    repeat (first | (refine ⟨fun h => ?_, fun h => ?_⟩; rotate_left 1; (focus (exfalso; (first | (with_reducible (cases h; done)) | (revert h; simp; done) | (revert h; simp; omega) | (revert h; simp [*]; done)))); clear h) | (refine ⟨fun h => ?_, fun h => ?_⟩; (focus (exfalso; (first | (with_reducible (cases h; done)) | (revert h; simp; done) | (revert h; simp; omega) | (revert h; simp [*]; done)))); clear h))
    intro z hz
    obtain rfl := bxor hz
    clear hz
    refine ⟨[], _, double_ok _ x, ?_⟩
    rintro _ _ ⟨rfl, rfl⟩
    refine ⟨by decide, ?_⟩
    intro z hz
    obtain rfl := bshr1 hz
    clear hz
    exact ⟨rfl, (gdbl x, y >>> 1, p ^^^ x), he, shr1_lt c, ⟨rfl, rfl, rfl, trivial⟩, Ent.refl _, rfl⟩
  · have d2 : ¬ ((y &&& 1).toNat : Int) = 1 := fun h => d (UInt8.toNat.inj (by show (y &&& 1).toNat = 1; omega))
    rw [if_neg d] at he
    clear d
    generalize (((y &&& 1).toNat : Nat) : Int) = m at d2
    repeat (first | (refine ⟨fun h => ?_, fun h => ?_⟩; rotate_left 1; (focus (exfalso; (first | (with_reducible (cases h; done)) | (revert h; simp; done) | (revert h; simp; omega) | (revert h; simp [*]; done)))); clear h) | (refine ⟨fun h => ?_, fun h => ?_⟩; (focus (exfalso; (first | (with_reducible (cases h; done)) | (revert h; simp; done) | (revert h; simp; omega) | (revert h; simp [*]; done)))); clear h))
    refine ⟨[], _, double_ok _ x, ?_⟩
    rintro _ _ ⟨rfl, rfl⟩
    refine ⟨by decide, ?_⟩
    intro z hz
    obtain rfl := bshr1 hz
    clear hz
    exact ⟨rfl, (gdbl x, y >>> 1, p), he, shr1_lt c, ⟨rfl, rfl, rfl, trivial⟩, Ent.refl _, rfl⟩
set_option maxRecDepth 100000 in
theorem Inv_ok (R : Rd) (a : UInt8) : Fn Tryd.prog 92 [.int .u8 a.toNat] [] R (fun v h => v = .tuple ⟨[.int .u8 (ginv a).toNat, .int .i64 (if a = 0 then 1 else 0)]⟩ ∧ h = []) := by
  refine fn_of_vc mixed tabOk Tryd.func92 rfl (by kernel_rfl) (Nat.le_of_ble_eq_true rfl) ?_
  by_cases c : a = 0
  · have c2 := u8_zero.2 c
    repeat (first | (refine ⟨fun h => ?_, fun h => ?_⟩; rotate_left 1; (focus (exfalso; (first | (with_reducible (cases h; done)) | (revert h; simp; done) | (revert h; simp; omega) | (revert h; simp [*]; done)))); clear h) | (refine ⟨fun h => ?_, fun h => ?_⟩; (focus (exfalso; (first | (with_reducible (cases h; done)) | (revert h; simp; done) | (revert h; simp; omega) | (revert h; simp [*]; done)))); clear h))
    refine ⟨_, Ent.refl _, ?_, rfl⟩
    rw [if_pos c]; unfold ginv; rw [if_pos c]; rfl
  have c2 : ¬ (a.toNat : Int) = 0 := fun h => c (u8_zero.1 h)
  repeat (first | (refine ⟨fun h => ?_, fun h => ?_⟩; rotate_left 1; (focus (exfalso; (first | (with_reducible (cases h; done)) | (revert h; simp; done) | (revert h; simp; omega) | (revert h; simp [*]; done)))); clear h) | (refine ⟨fun h => ?_, fun h => ?_⟩; (focus (exfalso; (first | (with_reducible (cases h; done)) | (revert h; simp; done) | (revert h; simp; omega) | (revert h; simp [*]; done)))); clear h))
  refine ⟨[some 0, none, none, none, some 4, none, none, some 7, some 8, some 9, some 10, some 11, some 12, some 13, some 14, some 15], [0, 4, 7], Nat × UInt8 × UInt8, fun ⟨k, x, v⟩ => k ≤ 7 ∧ ginvL (7 - k) x v = ginvL 7 a 1, fun ⟨k, x, v⟩ => [.int .u8 x.toNat, .int .u8 v.toNat, .int .i64 k], fun _ => [], fun ⟨k, _⟩ => 7 - k, (0, a, 1), ⟨Nat.zero_le _, rfl⟩, ⟨rfl, rfl, rfl, trivial⟩, Ent.refl _, ?_⟩
  rintro ⟨k, x, v⟩ ⟨hk, he⟩ js
  have hk : k ≤ 7 := hk
  have he : ginvL (7 - k) x v = ginvL 7 a 1 := he
  by_cases d : k < 7
  · repeat (first | (refine ⟨fun h => ?_, fun h => ?_⟩; rotate_left 1; (focus (exfalso; (first | (with_reducible (cases h; done)) | (revert h; simp; done) | (revert h; simp; omega) | (revert h; simp [*]; done)))); clear h) | (refine ⟨fun h => ?_, fun h => ?_⟩; (focus (exfalso; (first | (with_reducible (cases h; done)) | (revert h; simp; done) | (revert h; simp; omega) | (revert h; simp [*]; done)))); clear h))
    refine ⟨[], _, Mul_ok _ x x, ?_⟩
    rintro _ _ ⟨rfl, rfl⟩
    refine ⟨[], _, Mul_ok _ v (gmul x x), ?_⟩
    rintro _ _ ⟨rfl, rfl⟩
    (intro z hz; obtain rfl : z = ((k + 1 : Nat) : Int) := (by first | (rw [IntKind.wrap_i64] at hz; omega) | (rw [IntKind.wrap_u64] at hz; omega) | omega); clear hz)
    refine ⟨rfl, (k + 1, gmul x x, gmul v (gmul x x)), ⟨d, ?_⟩, by show 7 - (k + 1) < 7 - k; omega, ⟨rfl, rfl, rfl, trivial⟩, Ent.refl _, rfl⟩
    rw [← he, show 7 - k = (7 - (k + 1)) + 1 by omega]; rfl
  · repeat (first | (refine ⟨fun h => ?_, fun h => ?_⟩; rotate_left 1; (focus (exfalso; (first | (with_reducible (cases h; done)) | (revert h; simp; done) | (revert h; simp; omega) | (revert h; simp [*]; done)))); clear h) | (refine ⟨fun h => ?_, fun h => ?_⟩; (focus (exfalso; (first | (with_reducible (cases h; done)) | (revert h; simp; done) | (revert h; simp; omega) | (revert h; simp [*]; done)))); clear h))
    obtain rfl : k = 7 := by omega
    refine ⟨_, Ent.refl _, ?_, rfl⟩
    rw [if_neg c]; unfold ginv; rw [if_neg c, ← he]; rfl

theorem strow {gd i n c : Nat} {e : TypeId} {sz : Nat} {xs : List Value} {fz : Nat × Nat} {v : Value} {K : HA → Prop} (h1 : i < xs.length) (hK : K (.row (some ⟨gd, 0, .none⟩) n c e sz (xs.set i v) fz)) :
    stE (.row (some ⟨gd, 0, .none⟩) n c e sz xs fz) (addA ⟨gd, 0, .none⟩ (Int.toNat (i : Int) * 1)) [v] K := by
  rw [toNat1, ← addA_eq, add_zero_addr]
  exact ⟨rfl, rfl, by show i + 1 ≤ _; omega, hK⟩
theorem repl1 (v : Value) (n : Nat) : repl [v] n = List.replicate n v := by
  induction n with
  | zero => rfl
  | succ n ih => show [v] ++ repl [v] n = _; rw [ih]; rfl

theorem rdA0 {R : Rd} {g i : Nat} {v : Value} (h : R ⟨g, i, .none⟩ v) : R (addA (⟨g, 0, .none⟩ : Addr) (Int.toNat (i : Int) * 1)) v := by
  rw [toNat1, ← addA_eq, add_zero_addr]; exact h

/-! ### a table of products -/
def lowF (c : UInt8) (i : Nat) : UInt8 := gmul c (UInt8.ofNat i)
def highF (c : UInt8) (i : Nat) : UInt8 := gmul c (UInt8.ofNat (i * 16))
def lowT (c : UInt8) : Str := (List.range 16).map (lowF c)
def highT (c : UInt8) : Str := (List.range 16).map (highF c)
set_option maxRecDepth 100000 in
set_option maxHeartbeats 2000000 in
theorem multiplier_ok (R : Rd) (c : UInt8) : Fn Tryd.prog 100 [.int .u8 c.toNat] [] R
    (fun v h => ∃ g3 g4, v = .func (.func 101) #[] #[.pointer (some ⟨g3, 0, .none⟩), .pointer (some ⟨g4, 0, .none⟩)] ∧ h = [.blk g3 170 (BV (lowT c)), .blk g4 170 (BV (highT c))]) := by
  refine fn_of_vc mixed tabOk Tryd.func100 rfl (by kernel_rfl) (Nat.le_of_ble_eq_true rfl) ?_
  intro g3 g4
  refine ⟨[none, none, none, none, none, some 5, some 6, some 7, some 8, some 9, some 10, some 11, some 12, some 13, some 14, some 15, some 16, some 17, some 18, some 19, some 20, some 21, some 22], [6], Nat, fun k => k ≤ 16, fun k => [.int .i64 k], fun k => [.blk g3 170 (BV (tabM (lowF c) (fun _ => 0) 16 k)), .blk g4 170 (BV (tabM (highF c) (fun _ => 0) 16 k))], fun k => 16 - k, 0, Nat.zero_le _, ⟨rfl, trivial⟩, ?_, ?_⟩
  · show Ent _ [.blk g3 170 (BV (tabM (lowF c) (fun _ => 0) 16 0)), .blk g4 170 (BV (tabM (highF c) (fun _ => 0) 16 0))]
    rw [tabM_zero, tabM_zero]
    exact Ent.refl _
  intro k hk js
  have hk : k ≤ 16 := hk
  by_cases d : k < 16
  · repeat (first | (refine ⟨fun h => ?_, fun h => ?_⟩; rotate_left 1; (focus (exfalso; (first | (with_reducible (cases h; done)) | (revert h; simp; done) | (revert h; simp; omega) | (revert h; simp [*]; done)))); clear h) | (refine ⟨fun h => ?_, fun h => ?_⟩; (focus (exfalso; (first | (with_reducible (cases h; done)) | (revert h; simp; done) | (revert h; simp; omega) | (revert h; simp [*]; done)))); clear h))
    intro z hz
    obtain rfl := u8_of hz
    clear hz
    refine ⟨[], _, Mul_ok _ c (UInt8.ofNat k), ?_⟩
    rintro _ _ ⟨rfl, rfl⟩
    refine ⟨by omega, by omega, ?_⟩
    refine ⟨rfl, rfl, 0, nthK_mk rfl (stb0 (by rw [BV_length, tabM_length]; omega) ?_)⟩
    refine ⟨by decide, ?_⟩
    intro z hz
    obtain rfl : z = ((k * 16 : Nat) : Int) := by
      rw [hz]
      have e : ((k : Int) * 2 ^ (min (Int.toNat 4) IntKind.i64.bits)) = ((k * 16 : Nat) : Int) := by
        rw [show (min (Int.toNat 4) IntKind.i64.bits) = 4 from rfl]; omega
      rw [e]
      exact wr_i64 rfl (by omega) (by omega)
    clear hz
    intro z hz
    obtain rfl := u8_of hz
    clear hz
    refine ⟨[], _, Mul_ok _ c (UInt8.ofNat (k * 16)), ?_⟩
    rintro _ _ ⟨rfl, rfl⟩
    refine ⟨by omega, by omega, ?_⟩
    refine ⟨rfl, rfl, 1, nthK_mk rfl (stb0 (by rw [BV_length, tabM_length]; omega) ?_)⟩
    (intro z hz; obtain rfl : z = ((k + 1 : Nat) : Int) := (by first | (rw [IntKind.wrap_i64] at hz; omega) | (rw [IntKind.wrap_u64] at hz; omega) | omega); clear hz)
    refine ⟨rfl, k + 1, d, by show 16 - (k + 1) < 16 - k; omega, ⟨rfl, trivial⟩, ?_, rfl⟩
    show Ent _ [.blk g3 170 (BV (tabM (lowF c) (fun _ => 0) 16 (k + 1))), .blk g4 170 (BV (tabM (highF c) (fun _ => 0) 16 (k + 1)))]
    rw [← tabM_setV, ← tabM_setV]
    exact Ent.refl _
  · repeat (first | (refine ⟨fun h => ?_, fun h => ?_⟩; rotate_left 1; (focus (exfalso; (first | (with_reducible (cases h; done)) | (revert h; simp; done) | (revert h; simp; omega) | (revert h; simp [*]; done)))); clear h) | (refine ⟨fun h => ?_, fun h => ?_⟩; (focus (exfalso; (first | (with_reducible (cases h; done)) | (revert h; simp; done) | (revert h; simp; omega) | (revert h; simp [*]; done)))); clear h))
    obtain rfl : k = 16 := by omega
    refine ⟨_, Ent.refl _, g3, g4, rfl, ?_⟩
    show [_, _] = _
    rw [tabM_full, tabM_full]; rfl
set_option maxRecDepth 100000 in
theorem mult1_ok (R : Rd) (c a : UInt8) (g3 g4 : Nat) (h3 : ∀ j u, (BV (lowT c))[j]? = some u → R ⟨g3, j, .none⟩ u) (h4 : ∀ j u, (BV (highT c))[j]? = some u → R ⟨g4, j, .none⟩ u) :
    Fn Tryd.prog 101 [.int .u8 a.toNat, .pointer (some ⟨g3, 0, .none⟩), .pointer (some ⟨g4, 0, .none⟩)] [] R (fun v h => v = .int .u8 (gsc c a).toNat ∧ h = []) := by
  have l15 := and15_lt a
  have l4 := shr4_lt a
  have e3 := h3 (a &&& 15).toNat (.int .u8 (gmul c (a &&& 15)).toNat) (BV_get (by unfold lowT lowF; rw [List.getElem?_map, List.getElem?_range l15]; simp))
  have e4 := h4 (a >>> 4).toNat (.int .u8 (gmul c (UInt8.ofNat ((a >>> 4).toNat * 16))).toNat) (BV_get (by unfold highT highF; rw [List.getElem?_map, List.getElem?_range l4]; rfl))
  refine fn_of_vc mixed tabOk Tryd.func101 rfl (by kernel_rfl) (Nat.le_of_ble_eq_true rfl) ?_
  refine ⟨[], lexT 0 10, by kernel_rfl, ?_⟩
  intro z hz
  obtain rfl := band (b := 15) hz
  clear hz
  refine ⟨by omega, by omega, ?_⟩
  refine ⟨_, .inl (rdA0 e3), ?_⟩
  refine ⟨by decide, ?_⟩
  intro z hz
  obtain rfl := bshr4 hz
  clear hz
  refine ⟨by omega, by omega, ?_⟩
  refine ⟨_, .inl (rdA0 e4), ?_⟩
  intro z hz
  obtain rfl := bxor hz
  exact ⟨_, Ent.refl _, rfl, rfl⟩
def scaleL (src : Str) (c : UInt8) : Str := (List.range src.length).map fun i => gsc c (src.getD i 0)
theorem scaleL_length (src : Str) (c : UInt8) : (scaleL src c).length = src.length := by simp [scaleL]
set_option maxRecDepth 100000 in
set_option maxHeartbeats 2000000 in
theorem Scale_ok0 (R : Rd) (src : Str) (c : UInt8) (A : Option Addr) (cap : Nat) (hl : src.length ≤ 100000000) (hs : BsR R (.slice A src.length cap) src) : Fn Tryd.prog 98 [.slice A src.length cap, .int .u8 c.toNat] [] R
    (fun v h => ∃ g, v = .slice (some ⟨g, 0, .none⟩) src.length src.length ∧ h = [.row (some ⟨g, 0, .none⟩) src.length src.length 5 1 (BV (scaleL src c)) (0, 0)]) := by
  have hML := maxLen_eq
  refine fn_of_vc mixed tabOk Tryd.func98 rfl (by kernel_rfl) (Nat.le_of_ble_eq_true rfl) ?_
  refine ⟨[], _, multiplier_ok _ c, ?_⟩
  rintro _ _ ⟨g3, g4, rfl, rfl⟩
  refine ⟨by omega, by omega, by show (1 : Int) * _ ≤ _; omega, by omega, fun g => ?_⟩
  refine ⟨[none, none, none, none, none, none, none, some 7, some 8, none, none, none, none, none, none, none, some 16, some 17, some 18, some 19, some 20, some 21, some 22, some 23, some 24, some 25, some 26, some 27], [16], Nat, fun k => k ≤ src.length, fun k => [.int .i64 k], fun k => [.blk g3 170 (BV (lowT c)), .blk g4 170 (BV (highT c)), .row (some ⟨g, 0, .none⟩) src.length src.length 5 1 (BV (tabM (fun i => gsc c (src.getD i 0)) (fun _ => 0) src.length k)) (0, 0)], fun k => src.length - k, 0, Nat.zero_le _, ⟨rfl, trivial⟩, ?_, ?_⟩
  · show Ent [_, _, .row (some ⟨g, 0, .none⟩) src.length src.length 5 1 (repl [.int .u8 0] src.length) (0, 0)] [_, _, .row (some ⟨g, 0, .none⟩) src.length src.length 5 1 (BV (tabM _ (fun _ => 0) src.length 0)) (0, 0)]
    rw [tabM_zero, repl1]
    exact Ent.refl _
  intro k hk js
  have hk : k ≤ src.length := hk
  by_cases d : k < src.length
  · repeat (first | (refine ⟨fun h => ?_, fun h => ?_⟩; rotate_left 1; (focus (exfalso; (first | (with_reducible (cases h; done)) | (revert h; simp; done) | (revert h; simp; omega) | (revert h; simp [*]; done)))); clear h) | (refine ⟨fun h => ?_, fun h => ?_⟩; (focus (exfalso; (first | (with_reducible (cases h; done)) | (revert h; simp; done) | (revert h; simp; omega) | (revert h; simp [*]; done)))); clear h))
    obtain ⟨a, rfl, hra⟩ := hs.one d
    refine ⟨by omega, by omega, a, rfl, ?_⟩
    refine ⟨_, .inl hra, ?_⟩
    refine ⟨[], _, mult1_ok _ c (src.getD k 0) g3 g4 (fun j u hu => ld 0 rfl hu) (fun j u hu => ld 1 rfl hu), ?_⟩
    rintro _ _ ⟨rfl, rfl⟩
    refine ⟨by omega, by omega, _, rfl, ?_⟩
    refine ⟨rfl, rfl, 2, nthK_mk rfl (strow (by rw [BV_length, tabM_length]; omega) ?_)⟩
    (intro z hz; obtain rfl : z = ((k + 1 : Nat) : Int) := (by first | (rw [IntKind.wrap_i64] at hz; omega) | (rw [IntKind.wrap_u64] at hz; omega) | omega); clear hz)
    refine ⟨rfl, k + 1, d, by show src.length - (k + 1) < src.length - k; omega, ⟨rfl, trivial⟩, ?_, rfl⟩
    show Ent _ [_, _, .row (some ⟨g, 0, .none⟩) src.length src.length 5 1 (BV (tabM _ (fun _ => 0) src.length (k + 1))) (0, 0)]
    rw [← tabM_setV]
    exact Ent.refl _
  · repeat (first | (refine ⟨fun h => ?_, fun h => ?_⟩; rotate_left 1; (focus (exfalso; (first | (with_reducible (cases h; done)) | (revert h; simp; done) | (revert h; simp; omega) | (revert h; simp [*]; done)))); clear h) | (refine ⟨fun h => ?_, fun h => ?_⟩; (focus (exfalso; (first | (with_reducible (cases h; done)) | (revert h; simp; done) | (revert h; simp; omega) | (revert h; simp [*]; done)))); clear h))
    obtain rfl : k = src.length := by omega
    refine ⟨_, Ent.pick [2] rfl, g, rfl, ?_⟩
    show [HA.row _ _ _ _ _ (BV (tabM _ _ _ _)) _] = _
    rw [tabM_full]; rfl

end Go.Proofs.YtgnmbgbiajgpeaaDoor
