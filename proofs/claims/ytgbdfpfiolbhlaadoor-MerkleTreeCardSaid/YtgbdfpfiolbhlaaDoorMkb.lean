/-
  Contracts: leaves, nodes, splits, roots (package merkle and its reference).
-/
import Derived.Test.YtgbdfpfiolbhlaaDoorShg
import Derived.Test.YtgbdfpfiolbhlaaDoorMka
namespace Go.Proofs.YtgbdfpfiolbhlaaDoor
open Go Go.RowKit
set_option linter.unusedVariables false

theorem Leaf_ok (R : Rd) (hG : ShaG R) (x : List UInt8) (A : Option Addr) (cap : Nat) (hx : x.length ≤ 1152921504606846000) (hcap : x.length ≤ cap) (hs : BsR R (.slice A x.length cap) x) :
    Fn Tryd.prog 17 [.slice A x.length cap] [] R (fun v h => v = .string ⟨⟨leafOf x⟩⟩ ∧ h = []) := by
  refine fn_of_vc mixed tabOk Tryd.func17 rfl (by kernel_rfl) (Nat.le_of_ble_eq_true rfl) ?_
  refine ⟨[], _, New_ok _ (hG.rh _), ?_⟩
  rintro _ _ ⟨g, cs, rfl, rfl, hcs⟩
  refine ⟨rfl, fun g2 => ?_⟩
  refine ⟨[0, 0], _, Fn.frame (h := [_]) (k := [_]) (Write_ok _ ((hG.rh _).rh _) g [] [0] (some ⟨g2, 0, .none⟩) 1 cs (by decide) (by decide) (SlR.own 0 rfl rfl (.inr ⟨g2, rfl⟩)) hcs), ?_⟩
  rintro _ _ ⟨_, rfl, cs1, rfl, hcs1⟩
  refine ⟨[1], _, Write_ok _ (hG.rh _) g [0] x A cap cs1 (by show 1 + x.length ≤ _; omega) hcap (hs.rh _) hcs1, ?_⟩
  rintro _ _ ⟨cs2, rfl, hcs2⟩
  refine ⟨[1], _, StSum_ok _ (hG.rh _) g (0 :: x) cs2 (by rw [List.length_cons]; omega) hcs2, ?_⟩
  rintro _ _ ⟨rfl, rfl⟩
  exact ⟨_, Ent.drop [] [_, _], rfl, rfl⟩

theorem refLeaf_ok (R : Rd) (x : List UInt8) (v0 : Value) (hx : x.length ≤ 140737487000000) (hs : BsR R v0 x) :
    Fn Tryd.prog 18 [v0] [] R (fun v h => v = .string ⟨⟨leafOf x⟩⟩ ∧ h = []) := by
  obtain ⟨A, cap, rfl⟩ := hs.form
  have hML := maxLen_eq
  refine fn_of_vc mixed tabOk Tryd.func18 rfl (by kernel_rfl) (Nat.le_of_ble_eq_true rfl) ?_
  refine ⟨rfl, fun g => ?_⟩
  refine ⟨BV x, (BV_length x).trans (Nat.mul_one _).symm, (hs.rh _).src, BV_one _, by show (_ + _) * 1 ≤ _; omega, by omega, .inr ⟨0, rfl, rfl, rfl, rfl, rfl, rfl, fun A1 cap1 hg1 => ?_⟩⟩
  refine ⟨[], _, refSum_ok _ (0 :: x) _ (by rw [List.length_cons]; omega) (BsR.own 0 rfl (by rw [List.length_cons, Nat.add_comm]) rfl hg1), ?_⟩
  rintro _ _ ⟨rfl, rfl⟩
  exact ⟨_, Ent.drop [] [_], rfl, rfl⟩

theorem cat_three (l r : Str) : cat [[1], l, r] = 1 :: (l ++ r) := by simp [cat]

theorem Node_ok (R : Rd) (hG : ShaG R) (l r : Str) (hl : l.length ≤ 1000000000) (hr : r.length ≤ 1000000000) :
    Fn Tryd.prog 19 [.string ⟨⟨l⟩⟩, .string ⟨⟨r⟩⟩] [] R (fun v h => v = .string ⟨⟨nodeOf l r⟩⟩ ∧ h = []) := by
  refine fn_of_vc mixed tabOk Tryd.func19 rfl (by kernel_rfl) (Nat.le_of_ble_eq_true rfl) ?_
  refine ⟨rfl, fun g => ?_⟩
  have hc : (cat [[1], l, r]).length ≤ 1152921504606846976 := by rw [cat_three, List.length_cons, List.length_append]; omega
  refine ⟨[], _, Join_ok _ (hG.rh _) [[1], l, r] (some ⟨g, 0, .none⟩) 3 hc (by show 3 ≤ _; omega) (SlR.own 0 rfl rfl (.inr ⟨g, rfl⟩)), ?_⟩
  rintro _ _ ⟨rfl, rfl⟩
  refine ⟨_, Ent.drop [] [_], ?_, rfl⟩
  rw [cat_three]; rfl

theorem refNode_ok (R : Rd) (l r : Str) (hl : l.length ≤ 1000000000) (hr : r.length ≤ 1000000000) :
    Fn Tryd.prog 20 [.string ⟨⟨l⟩⟩, .string ⟨⟨r⟩⟩] [] R (fun v h => v = .string ⟨⟨nodeOf l r⟩⟩ ∧ h = []) := by
  refine fn_of_vc mixed tabOk Tryd.func20 rfl (by kernel_rfl) (Nat.le_of_ble_eq_true rfl) ?_
  refine ⟨rfl, fun g => ?_⟩
  have hc : (cat [[1], l, r]).length ≤ 140737488000000 := by rw [cat_three, List.length_cons, List.length_append]; omega
  refine ⟨[], _, refJoin_ok _ [[1], l, r] (.slice (some ⟨g, 0, .none⟩) 3 3) hc (by show 3 ≤ _; omega) (SlR.own 0 rfl rfl (.inr ⟨g, rfl⟩)), ?_⟩
  rintro _ _ ⟨rfl, rfl⟩
  refine ⟨_, Ent.drop [] [_], ?_, rfl⟩
  rw [cat_three]; rfl

/-! ### numbers of bits -/
def lenTab : List UInt8 := (List.range 256).map fun x => UInt8.ofNat (blen x)
theorem lenTab_get {x : Nat} (h : x < 256) : lenTab[x]? = some (UInt8.ofNat (blen x)) := by
  rw [lenTab, List.getElem?_map, List.getElem?_range h]; rfl
theorem blen_small {x : Nat} (h : x < 256) : (UInt8.ofNat (blen x)).toNat = blen x := by
  have := blen_lt (m := x) (k := 8) (by omega)
  rw [UInt8.toNat_ofNat']; omega

set_option maxRecDepth 100000 in
theorem Len64_ok (R : Rd) (m : Nat) (hm : m ≤ 18446744073709551615) : Fn Tryd.prog 84 [.int .u64 m] [] R (fun v h => v = .int .i64 (blen m) ∧ h = []) := by
  refine fn_of_vc mixed tabOk Tryd.func84 rfl (by kernel_rfl) (Nat.le_of_ble_eq_true rfl) ?_
  refine ⟨fun hb => ?_, fun hb => ?_⟩
  · replace hb := of_decide_eq_true hb
    have c32 : 2 ^ 32 ≤ m := by omega
    clear hb
    refine ⟨by decide, ?_⟩
    intro z hz; obtain rfl := u64_shr (s := 32) (by omega) hz; clear hz
    refine ⟨fun hb => ?_, fun hb => ?_⟩
    · replace hb := of_decide_eq_true hb
      have c16 : 2 ^ 16 ≤ m / 2 ^ 32 := by omega
      clear hb
      refine ⟨by decide, ?_⟩
      intro z hz; obtain rfl := u64_shr (s := 16) (by omega) hz; clear hz
      intro z hz; obtain rfl : z = 48 := (by rw [IntKind.wrap_i64] at hz; omega); clear hz
      refine ⟨fun hb => ?_, fun hb => ?_⟩
      · replace hb := of_decide_eq_true hb
        have c8 : 2 ^ 8 ≤ m / 2 ^ 32 / 2 ^ 16 := by omega
        clear hb
        refine ⟨by decide, ?_⟩
        intro z hz; obtain rfl := u64_shr (s := 8) (by omega) hz; clear hz
        intro z hz; obtain rfl : z = 56 := (by rw [IntKind.wrap_i64] at hz; omega); clear hz
        have hM : m / 2 ^ 32 / 2 ^ 16 / 2 ^ 8 < 256 := by omega
        intro z hz; obtain rfl : z = ((m / 2 ^ 32 / 2 ^ 16 / 2 ^ 8 : Nat) : Int) := (by rw [IntKind.wrap_u8] at hz; omega); clear hz
        refine ⟨by omega, UInt8.ofNat (blen (m / 2 ^ 32 / 2 ^ 16 / 2 ^ 8)), (congrArg (fun l : List UInt8 => l[Int.toNat ((m / 2 ^ 32 / 2 ^ 16 / 2 ^ 8 : Nat) : Int)]?) (by kernel_rfl : _ = lenTab)).trans (by show lenTab[Int.toNat ((m / 2 ^ 32 / 2 ^ 16 / 2 ^ 8 : Nat) : Int)]? = _; rw [Int.toNat_natCast]; exact lenTab_get hM), ?_⟩
        intro z hz; obtain rfl : z = ((blen (m / 2 ^ 32 / 2 ^ 16 / 2 ^ 8) : Nat) : Int) := (by rw [blen_small hM, IntKind.wrap_i64] at hz; have := blen_lt (m := m / 2 ^ 32 / 2 ^ 16 / 2 ^ 8) (k := 8) hM; omega); clear hz
        have hB := blen_lt (m := m / 2 ^ 32 / 2 ^ 16 / 2 ^ 8) (k := 8) hM
        intro z hz; obtain rfl : z = ((56 + blen (m / 2 ^ 32 / 2 ^ 16 / 2 ^ 8) : Nat) : Int) := (by rw [IntKind.wrap_i64] at hz; omega); clear hz
        refine ⟨_, Ent.refl _, ?_, rfl⟩
        have e : blen m = 56 + blen (m / 2 ^ 32 / 2 ^ 16 / 2 ^ 8) := by
          have h1 := blen_shift (m := m) (k := 32) (by omega)
          have h2 := blen_shift (m := m / 2 ^ 32) (k := 16) (by omega)
          have h3 := blen_shift (m := m / 2 ^ 32 / 2 ^ 16) (k := 8) (by omega)
          omega
        rw [e]; rfl
      · replace hb := of_decide_eq_false hb
        have c8 : m / 2 ^ 32 / 2 ^ 16 < 2 ^ 8 := by omega
        clear hb
        have hM : m / 2 ^ 32 / 2 ^ 16 < 256 := by omega
        intro z hz; obtain rfl : z = ((m / 2 ^ 32 / 2 ^ 16 : Nat) : Int) := (by rw [IntKind.wrap_u8] at hz; omega); clear hz
        refine ⟨by omega, UInt8.ofNat (blen (m / 2 ^ 32 / 2 ^ 16)), (congrArg (fun l : List UInt8 => l[Int.toNat ((m / 2 ^ 32 / 2 ^ 16 : Nat) : Int)]?) (by kernel_rfl : _ = lenTab)).trans (by show lenTab[Int.toNat ((m / 2 ^ 32 / 2 ^ 16 : Nat) : Int)]? = _; rw [Int.toNat_natCast]; exact lenTab_get hM), ?_⟩
        intro z hz; obtain rfl : z = ((blen (m / 2 ^ 32 / 2 ^ 16) : Nat) : Int) := (by rw [blen_small hM, IntKind.wrap_i64] at hz; have := blen_lt (m := m / 2 ^ 32 / 2 ^ 16) (k := 8) hM; omega); clear hz
        have hB := blen_lt (m := m / 2 ^ 32 / 2 ^ 16) (k := 8) hM
        intro z hz; obtain rfl : z = ((48 + blen (m / 2 ^ 32 / 2 ^ 16) : Nat) : Int) := (by rw [IntKind.wrap_i64] at hz; omega); clear hz
        refine ⟨_, Ent.refl _, ?_, rfl⟩
        have e : blen m = 48 + blen (m / 2 ^ 32 / 2 ^ 16) := by
          have h1 := blen_shift (m := m) (k := 32) (by omega)
          have h2 := blen_shift (m := m / 2 ^ 32) (k := 16) (by omega)
          omega
        rw [e]; rfl
    · replace hb := of_decide_eq_false hb
      have c16 : m / 2 ^ 32 < 2 ^ 16 := by omega
      clear hb
      refine ⟨fun hb => ?_, fun hb => ?_⟩
      · replace hb := of_decide_eq_true hb
        have c8 : 2 ^ 8 ≤ m / 2 ^ 32 := by omega
        clear hb
        refine ⟨by decide, ?_⟩
        intro z hz; obtain rfl := u64_shr (s := 8) (by omega) hz; clear hz
        intro z hz; obtain rfl : z = 40 := (by rw [IntKind.wrap_i64] at hz; omega); clear hz
        have hM : m / 2 ^ 32 / 2 ^ 8 < 256 := by omega
        intro z hz; obtain rfl : z = ((m / 2 ^ 32 / 2 ^ 8 : Nat) : Int) := (by rw [IntKind.wrap_u8] at hz; omega); clear hz
        refine ⟨by omega, UInt8.ofNat (blen (m / 2 ^ 32 / 2 ^ 8)), (congrArg (fun l : List UInt8 => l[Int.toNat ((m / 2 ^ 32 / 2 ^ 8 : Nat) : Int)]?) (by kernel_rfl : _ = lenTab)).trans (by show lenTab[Int.toNat ((m / 2 ^ 32 / 2 ^ 8 : Nat) : Int)]? = _; rw [Int.toNat_natCast]; exact lenTab_get hM), ?_⟩
        intro z hz; obtain rfl : z = ((blen (m / 2 ^ 32 / 2 ^ 8) : Nat) : Int) := (by rw [blen_small hM, IntKind.wrap_i64] at hz; have := blen_lt (m := m / 2 ^ 32 / 2 ^ 8) (k := 8) hM; omega); clear hz
        have hB := blen_lt (m := m / 2 ^ 32 / 2 ^ 8) (k := 8) hM
        intro z hz; obtain rfl : z = ((40 + blen (m / 2 ^ 32 / 2 ^ 8) : Nat) : Int) := (by rw [IntKind.wrap_i64] at hz; omega); clear hz
        refine ⟨_, Ent.refl _, ?_, rfl⟩
        have e : blen m = 40 + blen (m / 2 ^ 32 / 2 ^ 8) := by
          have h1 := blen_shift (m := m) (k := 32) (by omega)
          have h2 := blen_shift (m := m / 2 ^ 32) (k := 8) (by omega)
          omega
        rw [e]; rfl
      · replace hb := of_decide_eq_false hb
        have c8 : m / 2 ^ 32 < 2 ^ 8 := by omega
        clear hb
        have hM : m / 2 ^ 32 < 256 := by omega
        intro z hz; obtain rfl : z = ((m / 2 ^ 32 : Nat) : Int) := (by rw [IntKind.wrap_u8] at hz; omega); clear hz
        refine ⟨by omega, UInt8.ofNat (blen (m / 2 ^ 32)), (congrArg (fun l : List UInt8 => l[Int.toNat ((m / 2 ^ 32 : Nat) : Int)]?) (by kernel_rfl : _ = lenTab)).trans (by show lenTab[Int.toNat ((m / 2 ^ 32 : Nat) : Int)]? = _; rw [Int.toNat_natCast]; exact lenTab_get hM), ?_⟩
        intro z hz; obtain rfl : z = ((blen (m / 2 ^ 32) : Nat) : Int) := (by rw [blen_small hM, IntKind.wrap_i64] at hz; have := blen_lt (m := m / 2 ^ 32) (k := 8) hM; omega); clear hz
        have hB := blen_lt (m := m / 2 ^ 32) (k := 8) hM
        intro z hz; obtain rfl : z = ((32 + blen (m / 2 ^ 32) : Nat) : Int) := (by rw [IntKind.wrap_i64] at hz; omega); clear hz
        refine ⟨_, Ent.refl _, ?_, rfl⟩
        have e : blen m = 32 + blen (m / 2 ^ 32) := by
          have h1 := blen_shift (m := m) (k := 32) (by omega)
          omega
        rw [e]; rfl
  · replace hb := of_decide_eq_false hb
    have c32 : m < 2 ^ 32 := by omega
    clear hb
    refine ⟨fun hb => ?_, fun hb => ?_⟩
    · replace hb := of_decide_eq_true hb
      have c16 : 2 ^ 16 ≤ m := by omega
      clear hb
      refine ⟨by decide, ?_⟩
      intro z hz; obtain rfl := u64_shr (s := 16) (by omega) hz; clear hz
      intro z hz; obtain rfl : z = 16 := (by rw [IntKind.wrap_i64] at hz; omega); clear hz
      refine ⟨fun hb => ?_, fun hb => ?_⟩
      · replace hb := of_decide_eq_true hb
        have c8 : 2 ^ 8 ≤ m / 2 ^ 16 := by omega
        clear hb
        refine ⟨by decide, ?_⟩
        intro z hz; obtain rfl := u64_shr (s := 8) (by omega) hz; clear hz
        intro z hz; obtain rfl : z = 24 := (by rw [IntKind.wrap_i64] at hz; omega); clear hz
        have hM : m / 2 ^ 16 / 2 ^ 8 < 256 := by omega
        intro z hz; obtain rfl : z = ((m / 2 ^ 16 / 2 ^ 8 : Nat) : Int) := (by rw [IntKind.wrap_u8] at hz; omega); clear hz
        refine ⟨by omega, UInt8.ofNat (blen (m / 2 ^ 16 / 2 ^ 8)), (congrArg (fun l : List UInt8 => l[Int.toNat ((m / 2 ^ 16 / 2 ^ 8 : Nat) : Int)]?) (by kernel_rfl : _ = lenTab)).trans (by show lenTab[Int.toNat ((m / 2 ^ 16 / 2 ^ 8 : Nat) : Int)]? = _; rw [Int.toNat_natCast]; exact lenTab_get hM), ?_⟩
        intro z hz; obtain rfl : z = ((blen (m / 2 ^ 16 / 2 ^ 8) : Nat) : Int) := (by rw [blen_small hM, IntKind.wrap_i64] at hz; have := blen_lt (m := m / 2 ^ 16 / 2 ^ 8) (k := 8) hM; omega); clear hz
        have hB := blen_lt (m := m / 2 ^ 16 / 2 ^ 8) (k := 8) hM
        intro z hz; obtain rfl : z = ((24 + blen (m / 2 ^ 16 / 2 ^ 8) : Nat) : Int) := (by rw [IntKind.wrap_i64] at hz; omega); clear hz
        refine ⟨_, Ent.refl _, ?_, rfl⟩
        have e : blen m = 24 + blen (m / 2 ^ 16 / 2 ^ 8) := by
          have h1 := blen_shift (m := m) (k := 16) (by omega)
          have h2 := blen_shift (m := m / 2 ^ 16) (k := 8) (by omega)
          omega
        rw [e]; rfl
      · replace hb := of_decide_eq_false hb
        have c8 : m / 2 ^ 16 < 2 ^ 8 := by omega
        clear hb
        have hM : m / 2 ^ 16 < 256 := by omega
        intro z hz; obtain rfl : z = ((m / 2 ^ 16 : Nat) : Int) := (by rw [IntKind.wrap_u8] at hz; omega); clear hz
        refine ⟨by omega, UInt8.ofNat (blen (m / 2 ^ 16)), (congrArg (fun l : List UInt8 => l[Int.toNat ((m / 2 ^ 16 : Nat) : Int)]?) (by kernel_rfl : _ = lenTab)).trans (by show lenTab[Int.toNat ((m / 2 ^ 16 : Nat) : Int)]? = _; rw [Int.toNat_natCast]; exact lenTab_get hM), ?_⟩
        intro z hz; obtain rfl : z = ((blen (m / 2 ^ 16) : Nat) : Int) := (by rw [blen_small hM, IntKind.wrap_i64] at hz; have := blen_lt (m := m / 2 ^ 16) (k := 8) hM; omega); clear hz
        have hB := blen_lt (m := m / 2 ^ 16) (k := 8) hM
        intro z hz; obtain rfl : z = ((16 + blen (m / 2 ^ 16) : Nat) : Int) := (by rw [IntKind.wrap_i64] at hz; omega); clear hz
        refine ⟨_, Ent.refl _, ?_, rfl⟩
        have e : blen m = 16 + blen (m / 2 ^ 16) := by
          have h1 := blen_shift (m := m) (k := 16) (by omega)
          omega
        rw [e]; rfl
    · replace hb := of_decide_eq_false hb
      have c16 : m < 2 ^ 16 := by omega
      clear hb
      refine ⟨fun hb => ?_, fun hb => ?_⟩
      · replace hb := of_decide_eq_true hb
        have c8 : 2 ^ 8 ≤ m := by omega
        clear hb
        refine ⟨by decide, ?_⟩
        intro z hz; obtain rfl := u64_shr (s := 8) (by omega) hz; clear hz
        intro z hz; obtain rfl : z = 8 := (by rw [IntKind.wrap_i64] at hz; omega); clear hz
        have hM : m / 2 ^ 8 < 256 := by omega
        intro z hz; obtain rfl : z = ((m / 2 ^ 8 : Nat) : Int) := (by rw [IntKind.wrap_u8] at hz; omega); clear hz
        refine ⟨by omega, UInt8.ofNat (blen (m / 2 ^ 8)), (congrArg (fun l : List UInt8 => l[Int.toNat ((m / 2 ^ 8 : Nat) : Int)]?) (by kernel_rfl : _ = lenTab)).trans (by show lenTab[Int.toNat ((m / 2 ^ 8 : Nat) : Int)]? = _; rw [Int.toNat_natCast]; exact lenTab_get hM), ?_⟩
        intro z hz; obtain rfl : z = ((blen (m / 2 ^ 8) : Nat) : Int) := (by rw [blen_small hM, IntKind.wrap_i64] at hz; have := blen_lt (m := m / 2 ^ 8) (k := 8) hM; omega); clear hz
        have hB := blen_lt (m := m / 2 ^ 8) (k := 8) hM
        intro z hz; obtain rfl : z = ((8 + blen (m / 2 ^ 8) : Nat) : Int) := (by rw [IntKind.wrap_i64] at hz; omega); clear hz
        refine ⟨_, Ent.refl _, ?_, rfl⟩
        have e : blen m = 8 + blen (m / 2 ^ 8) := by
          have h1 := blen_shift (m := m) (k := 8) (by omega)
          omega
        rw [e]; rfl
      · replace hb := of_decide_eq_false hb
        have c8 : m < 2 ^ 8 := by omega
        clear hb
        have hM : m < 256 := by omega
        intro z hz; obtain rfl : z = ((m : Nat) : Int) := (by rw [IntKind.wrap_u8] at hz; omega); clear hz
        refine ⟨by omega, UInt8.ofNat (blen (m)), (congrArg (fun l : List UInt8 => l[Int.toNat ((m : Nat) : Int)]?) (by kernel_rfl : _ = lenTab)).trans (by show lenTab[Int.toNat ((m : Nat) : Int)]? = _; rw [Int.toNat_natCast]; exact lenTab_get hM), ?_⟩
        intro z hz; obtain rfl : z = ((blen (m) : Nat) : Int) := (by rw [blen_small hM, IntKind.wrap_i64] at hz; have := blen_lt (m := m) (k := 8) hM; omega); clear hz
        have hB := blen_lt (m := m) (k := 8) hM
        intro z hz; obtain rfl : z = ((0 + blen (m) : Nat) : Int) := (by rw [IntKind.wrap_i64] at hz; omega); clear hz
        refine ⟨_, Ent.refl _, ?_, rfl⟩
        have e : 0 + blen m = blen m := Nat.zero_add _
        rw [e]; rfl

theorem Len_ok (R : Rd) (m : Nat) (hm : m ≤ 18446744073709551615) : Fn Tryd.prog 79 [.int .u64 m] [] R (fun v h => v = .int .i64 (blen m) ∧ h = []) := by
  refine fn_of_vc mixed tabOk Tryd.func79 rfl (by kernel_rfl) (Nat.le_of_ble_eq_true rfl) ?_
  refine ⟨fun h => (by cases h), fun _ => ?_⟩
  refine ⟨[], _, Len64_ok _ m hm, ?_⟩
  rintro _ _ ⟨rfl, rfl⟩
  exact ⟨_, Ent.refl _, rfl, rfl⟩

theorem split_ok (R : Rd) (n : Nat) (h2 : 2 ≤ n) (hn : n ≤ 9223372036854775807) : Fn Tryd.prog 58 [.int .i64 n] [] R (fun v h => v = .int .i64 (splitN n) ∧ h = []) := by
  have hb : blen (n - 1) = Nat.log2 (n - 1) + 1 := by rw [blen, if_neg (by omega)]
  have hl : blen (n - 1) ≤ 63 := blen_lt (by omega)
  have hs := splitN_lt h2
  refine fn_of_vc mixed tabOk Tryd.func58 rfl (by kernel_rfl) (Nat.le_of_ble_eq_true rfl) ?_
  (intro z hz; obtain rfl : z = ((n - 1 : Nat) : Int) := (by first | (rw [IntKind.wrap_i64] at hz; omega) | (rw [IntKind.wrap_u64] at hz; omega) | omega); clear hz)
  (intro z hz; obtain rfl : z = ((n - 1 : Nat) : Int) := (by first | (rw [IntKind.wrap_i64] at hz; omega) | (rw [IntKind.wrap_u64] at hz; omega) | omega); clear hz)
  refine ⟨[], _, Len_ok _ (n - 1) (by omega), ?_⟩
  rintro _ _ ⟨rfl, rfl⟩
  (intro z hz; obtain rfl : z = ((Nat.log2 (n - 1) : Nat) : Int) := (by first | (rw [IntKind.wrap_i64] at hz; omega) | (rw [IntKind.wrap_u64] at hz; omega) | omega); clear hz)
  refine ⟨by omega, ?_⟩
  intro z hz
  obtain rfl : z = ((splitN n : Nat) : Int) := by
    rw [Int.toNat_natCast, show min (Nat.log2 (n - 1)) IntKind.i64.bits = Nat.log2 (n - 1) by simp [IntKind.bits]; omega, IntKind.wrap_i64] at hz
    have e : (1 : Int) * 2 ^ Nat.log2 (n - 1) = ((splitN n : Nat) : Int) := by rw [splitN]; simp
    rw [e] at hz
    omega
  exact ⟨_, Ent.refl _, rfl, rfl⟩

theorem Split_ok (R : Rd) (n : Nat) (h2 : 2 ≤ n) (hn : n ≤ 9223372036854775807) : Fn Tryd.prog 59 [.int .i64 n] [] R (fun v h => v = .int .i64 (splitN n) ∧ h = []) := by
  refine fn_of_vc mixed tabOk Tryd.func59 rfl (by kernel_rfl) (Nat.le_of_ble_eq_true rfl) ?_
  refine ⟨[none, none, none, some 3, some 4, some 5, some 6, some 7, some 8, some 9, some 10], [3], Nat × Nat, fun ⟨k, e⟩ => k = 2 ^ e ∧ k < n, fun ⟨k, _⟩ => [.int .i64 k], fun _ => [], fun ⟨k, _⟩ => n - k, (1, 0), ⟨rfl, by omega⟩, ⟨rfl, trivial⟩, Ent.refl _, ?_⟩
  rintro ⟨k, e⟩ ⟨hk, hkn⟩ js
  have hp := Nat.two_pow_pos e
  (intro z hz; obtain rfl : z = ((n - k : Nat) : Int) := (by first | (rw [IntKind.wrap_i64] at hz; omega) | (rw [IntKind.wrap_u64] at hz; omega) | omega); clear hz)
  refine ⟨fun hb => ?_, fun hb => ?_⟩
  · replace hb := of_decide_eq_true hb
    (intro z hz; obtain rfl : z = ((k * 2 : Nat) : Int) := (by first | (rw [IntKind.wrap_i64] at hz; omega) | (rw [IntKind.wrap_u64] at hz; omega) | omega); clear hz)
    refine ⟨rfl, (k * 2, e + 1), ⟨by rw [hk, Nat.pow_succ], by omega⟩, by show n - k * 2 < n - k; omega, ⟨rfl, trivial⟩, Ent.refl _, rfl⟩
  · replace hb := of_decide_eq_false hb
    have := splitN_unique hk hkn (by omega)
    subst this
    exact ⟨_, Ent.refl _, rfl, rfl⟩

/-! ### parts of a slice of texts -/
theorem SsR.sub {R : Rd} {A : Option Addr} {n cap : Nat} {b : List Str} (hb : SsR R (.slice A n cap) b) {l h : Nat} (h1 : l ≤ h) (h2 : h ≤ b.length) (hc : b.length ≤ cap) : SsR R (.slice (sliceBase A cap l 1) (h - l) (cap - l)) ((b.drop l).take (h - l)) := by
  have hl : ((b.drop l).take (h - l)).length = h - l := by rw [List.length_take, List.length_drop]; omega
  refine ⟨by rw [SV_length, Nat.mul_one], _, _, by rw [hl], fun j u hu => ?_⟩
  rw [SV, List.getElem?_map] at hu
  cases hj : ((b.drop l).take (h - l))[j]? with
  | none => rw [hj] at hu; cases hu
  | some y =>
    rw [hj] at hu
    simp only [Option.map_some, Option.some.injEq] at hu
    subst hu
    have hjl := (List.getElem?_eq_some_iff.1 hj).1
    rw [List.getElem?_take_of_lt (by omega), List.getElem?_drop] at hj
    obtain ⟨a, rfl, hr⟩ := hb.at_ hj
    refine ⟨a.add (l * 1), ?_, by rw [add_add, Nat.mul_one]; exact hr⟩
    unfold sliceBase
    rw [if_neg (by omega)]; rfl
/-- A slice of texts with its room. -/
def Ss (R : Rd) (v : Value) (l : List Str) : Prop := ∃ A cap, v = .slice A l.length cap ∧ l.length ≤ cap ∧ SsR R v l
theorem Ss.mono {R R' : Rd} {v : Value} {l : List Str} (h : Ss R v l) (hr : ∀ a v, R a v → R' a v) : Ss R' v l := by
  obtain ⟨A, cap, rfl, hc, hs⟩ := h
  exact ⟨A, cap, rfl, hc, hs.mono hr⟩
theorem Ss.rh {R : Rd} {v : Value} {l : List Str} (h : Ss R v l) (hp : Hp) : Ss (RH R hp) v l := h.mono fun _ _ => .inl
theorem Ss.take {R : Rd} {A : Option Addr} {cap : Nat} {l : List Str} (h : Ss R (.slice A l.length cap) l) {k : Nat} (hk : k ≤ l.length) : Ss R (.slice (sliceBase A cap 0 1) (k - 0) (cap - 0)) (l.take k) := by
  obtain ⟨A', cap', e, hc, hs⟩ := h
  cases e
  have := hs.sub (l := 0) (h := k) (by omega) hk hc
  rw [List.drop_zero, Nat.sub_zero] at this
  refine ⟨_, _, by rw [List.length_take, Nat.min_eq_left hk]; rfl, by rw [List.length_take]; omega, this⟩
theorem Ss.drop {R : Rd} {A : Option Addr} {cap : Nat} {l : List Str} (h : Ss R (.slice A l.length cap) l) {k : Nat} (hk : k ≤ l.length) : Ss R (.slice (sliceBase A cap k 1) (l.length - k) (cap - k)) (l.drop k) := by
  obtain ⟨A', cap', e, hc, hs⟩ := h
  cases e
  have := hs.sub (l := k) (h := l.length) hk (Nat.le_refl _) hc
  rw [List.take_of_length_le (by rw [List.length_drop]; exact Nat.le_refl _)] at this
  refine ⟨_, _, by rw [List.length_drop], by rw [List.length_drop]; omega, this⟩

/-- Texts that are not too long. -/
def Small (l : List Str) : Prop := l.length ≤ 1000000000 ∧ ∀ s ∈ l, s.length ≤ 1000000
theorem Small.take {l : List Str} (h : Small l) (k : Nat) : Small (l.take k) := ⟨by rw [List.length_take]; have := h.1; omega, fun s hs => h.2 s (List.mem_of_mem_take hs)⟩
theorem Small.drop {l : List Str} (h : Small l) (k : Nat) : Small (l.drop k) := ⟨by rw [List.length_drop]; have := h.1; omega, fun s hs => h.2 s (List.mem_of_mem_drop hs)⟩
theorem Small.root {l : List Str} (h : Small l) : (rootOf l).length ≤ 1000000 := by
  by_cases h1 : l.length = 1
  · rw [rootOf_one h1, List.getD_eq_getElem?_getD, List.getElem?_eq_getElem (by omega)]
    exact h.2 _ (List.getElem_mem _)
  · rw [rootOf_length h1]; omega
theorem Small.get {l : List Str} (h : Small l) (i : Nat) : (l.getD i []).length ≤ 1000000 := by
  rw [List.getD_eq_getElem?_getD]
  cases hi : l[i]? with
  | none => simp
  | some s => exact h.2 s (List.mem_of_getElem? hi)

theorem Root_ok (R : Rd) (hG : ShaG R) : ∀ (n : Nat) (l : List Str) (v0 : Value), l.length = n → Small l → Ss R v0 l → Fn Tryd.prog 22 [v0] [] R (fun v h => v = .string ⟨⟨rootOf l⟩⟩ ∧ h = []) := by
  intro n
  induction n using Nat.strongRecOn generalizing R with
  | _ n ih =>
  intro l v0 hn hsm hs
  obtain ⟨A, cap, rfl, hc, hsr⟩ := hs
  have hs : Ss R (.slice A l.length cap) l := ⟨A, cap, rfl, hc, hsr⟩
  have hlen := hsm.1
  refine fn_of_vc mixed tabOk Tryd.func22 rfl (by kernel_rfl) (Nat.le_of_ble_eq_true rfl) ?_
  refine ⟨fun hb => ?_, fun hb => ?_⟩
  · replace hb := of_decide_eq_true hb
    have h0 : l.length = 0 := by omega
    clear hb
    refine ⟨[], _, Sum_ok _ (hG.rh _) [] .none 0 (by decide) (by decide) (BsR.nilv _), ?_⟩
    rintro _ _ ⟨rfl, rfl⟩
    refine ⟨_, Ent.refl _, ?_, rfl⟩
    rw [rootOf_zero h0]; rfl
  replace hb := of_decide_eq_false hb
  have h0 : ¬ l.length = 0 := by omega
  clear hb
  refine ⟨fun hb => ?_, fun hb => ?_⟩
  · replace hb := of_decide_eq_true hb
    have h1 : l.length = 1 := by omega
    clear hb
    obtain ⟨a, ha, hr⟩ := hsr.one (i := 0) (by omega)
    refine ⟨by decide, by omega, a, ha, _, .inl hr, ?_⟩
    refine ⟨_, Ent.refl _, ?_, rfl⟩
    rw [rootOf_one h1]; rfl
  replace hb := of_decide_eq_false hb
  have h2 : 2 ≤ l.length := by omega
  clear hb
  have hk := splitN_lt h2
  have hk0 := splitN_pos l.length
  refine ⟨[], _, split_ok _ l.length h2 (by omega), ?_⟩
  rintro _ _ ⟨rfl, rfl⟩
  refine ⟨[], (.q 0 (.q 1 (.q 2 (.q 4 (.q 5 (.q 6 (.one 3 (.one 7 (.one 8 (.q 9 .nil)))))))))), by kernel_rfl, ?_⟩
  refine ⟨0, splitN l.length, rfl, rfl, by omega, by omega, ?_⟩
  refine ⟨splitN l.length, l.length, rfl, rfl, by omega, by omega, ?_⟩
  refine ⟨[], _, ih (splitN l.length) (by omega) _ ((hG.rh _).rh _) (l.take (splitN l.length)) _ (by rw [List.length_take]; omega) (hsm.take _) (((hs.take (by omega)).rh _).rh _), ?_⟩
  rintro _ _ ⟨rfl, rfl⟩
  refine ⟨[], _, ih (l.length - splitN l.length) (by omega) _ ((hG.rh _).rh _) (l.drop (splitN l.length)) _ (by rw [List.length_drop]) (hsm.drop _) (((hs.drop (by omega)).rh _).rh _), ?_⟩
  rintro _ _ ⟨rfl, rfl⟩
  refine ⟨[], _, Node_ok _ ((hG.rh _).rh _) _ _ (by have := (hsm.take (splitN l.length)).root; omega) (by have := (hsm.drop (splitN l.length)).root; omega), ?_⟩
  rintro _ _ ⟨rfl, rfl⟩
  refine ⟨_, Ent.refl _, ?_, rfl⟩
  rw [rootOf_two h2]; rfl

theorem refRoot_ok (R : Rd) : ∀ (n : Nat) (l : List Str) (v0 : Value), l.length = n → Small l → Ss R v0 l → Fn Tryd.prog 23 [v0] [] R (fun v h => v = .string ⟨⟨rootOf l⟩⟩ ∧ h = []) := by
  intro n
  induction n using Nat.strongRecOn generalizing R with
  | _ n ih =>
  intro l v0 hn hsm hs
  obtain ⟨A, cap, rfl, hc, hsr⟩ := hs
  have hs : Ss R (.slice A l.length cap) l := ⟨A, cap, rfl, hc, hsr⟩
  have hlen := hsm.1
  refine fn_of_vc mixed tabOk Tryd.func23 rfl (by kernel_rfl) (Nat.le_of_ble_eq_true rfl) ?_
  refine ⟨fun hb => ?_, fun hb => ?_⟩
  · replace hb := of_decide_eq_true hb
    have h0 : l.length = 0 := by omega
    clear hb
    refine ⟨[], _, refSum_ok _ [] (.slice .none 0 0) (by decide) (BsR.nilv _), ?_⟩
    rintro _ _ ⟨rfl, rfl⟩
    refine ⟨_, Ent.refl _, ?_, rfl⟩
    rw [rootOf_zero h0]; rfl
  replace hb := of_decide_eq_false hb
  have h0 : ¬ l.length = 0 := by omega
  clear hb
  refine ⟨fun hb => ?_, fun hb => ?_⟩
  · replace hb := of_decide_eq_true hb
    have h1 : l.length = 1 := by omega
    clear hb
    obtain ⟨a, ha, hr⟩ := hsr.one (i := 0) (by omega)
    refine ⟨by decide, by omega, a, ha, _, .inl hr, ?_⟩
    refine ⟨_, Ent.refl _, ?_, rfl⟩
    rw [rootOf_one h1]; rfl
  replace hb := of_decide_eq_false hb
  have h2 : 2 ≤ l.length := by omega
  clear hb
  have hk := splitN_lt h2
  have hk0 := splitN_pos l.length
  refine ⟨[], _, Split_ok _ l.length h2 (by omega), ?_⟩
  rintro _ _ ⟨rfl, rfl⟩
  refine ⟨[], (.q 0 (.q 1 (.q 2 (.q 4 (.q 5 (.q 6 (.one 3 (.one 7 (.one 8 (.q 9 .nil)))))))))), by kernel_rfl, ?_⟩
  refine ⟨0, splitN l.length, rfl, rfl, by omega, by omega, ?_⟩
  refine ⟨splitN l.length, l.length, rfl, rfl, by omega, by omega, ?_⟩
  refine ⟨[], _, ih (splitN l.length) (by omega) _ (l.take (splitN l.length)) _ (by rw [List.length_take]; omega) (hsm.take _) (((hs.take (by omega)).rh _).rh _), ?_⟩
  rintro _ _ ⟨rfl, rfl⟩
  refine ⟨[], _, ih (l.length - splitN l.length) (by omega) _ (l.drop (splitN l.length)) _ (by rw [List.length_drop]) (hsm.drop _) (((hs.drop (by omega)).rh _).rh _), ?_⟩
  rintro _ _ ⟨rfl, rfl⟩
  refine ⟨[], _, refNode_ok _ _ _ (by have := (hsm.take (splitN l.length)).root; omega) (by have := (hsm.drop (splitN l.length)).root; omega), ?_⟩
  rintro _ _ ⟨rfl, rfl⟩
  refine ⟨_, Ent.refl _, ?_, rfl⟩
  rw [rootOf_two h2]; rfl

end Go.Proofs.YtgbdfpfiolbhlaaDoor
