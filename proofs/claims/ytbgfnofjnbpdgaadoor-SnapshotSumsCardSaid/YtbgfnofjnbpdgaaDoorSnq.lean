/-
  Contract: awake of the law.
-/
import Derived.Test.YtbgfnofjnbpdgaaDoorSnp
namespace Go.Proofs.YtbgfnofjnbpdgaaDoor
open Go Go.RowKit
set_option linter.unusedVariables false

def nm0 : Str := [48, 49, 50, 51, 52, 53, 54, 55, 56, 57, 97, 98, 99, 100, 101, 102, 48, 49, 50, 51, 52, 53, 54, 55, 56, 57, 97, 98, 99, 100, 101, 102]
def aS : Snap := ⟨2, 1, 7, nm0, 0, 5, 3, 100, [], false⟩
def bS : Snap := ⟨2, 2, 7, nm0, 0, 5, 3, 100, sumP aS, false⟩
def C0 : Int → List Rec := fun _ => []
def C1 : Int → List Rec := updC C0 2 [⟨aS, false, false⟩]
def C2 : Int → List Rec := updC C1 2 [⟨aS, false, true⟩]
def C3 : Int → List Rec := updC C2 2 [⟨aS, false, false⟩]
def C4 : Int → List Rec := updC C3 2 [⟨aS, true, false⟩]
theorem aS_valid : validB aS = true := by decide
theorem bS_valid (d : Int) (hd : 0 ≤ d ∧ d ≤ 999999) : validB (nextS (some aS) 2 d nm0 0 5 3 100) = true :=
  validB_iff.2 ⟨(by decide : (0 : Int) ≤ 2 ∧ (2 : Int) ≤ 11), (by decide : (1 : Int) ≤ 2 ∧ (2 : Int) ≤ 1099511627776), hd, (by decide : nm0.length = 32), (by decide : (0 : Int) ≤ 0 ∧ (0 : Int) ≤ 1099511627776), (by decide : (0 : Int) ≤ 5 ∧ (5 : Int) ≤ 65536),
    (by decide : (0 : Int) ≤ 3 ∧ (3 : Int) ≤ 4096), (by decide : (0 : Int) ≤ 100 ∧ (100 : Int) ≤ 1099511627776), fun h => absurd h (by decide : ¬ (2 : Int) = 1), fun _ => sumP_length aS⟩
theorem E1 : nextL (lastC (C0 2)) 2 7 nm0 0 5 3 100 = (aS, 0) := rfl
theorem E2 : addC C0 aS = (C1, 0) := rfl
theorem E3 : nextL (lastC (C1 2)) 2 6 nm0 0 5 3 100 = (Snap.zero, 13) := by
  show nextL (some aS) 2 6 nm0 0 5 3 100 = _
  unfold nextL
  rw [if_pos (bS_valid 6 (by decide))]; rfl
theorem E4 : nextL (lastC (C1 2)) 2 7 nm0 0 5 3 100 = (bS, 0) := by
  show nextL (some aS) 2 7 nm0 0 5 3 100 = _
  unfold nextL
  rw [if_pos (bS_valid 7 (by decide))]; rfl
theorem E6 : holdC C1 2 1 true = (C2, 0) := rfl
theorem E7 : forgetC C2 2 1 = (C2, 14) := rfl
theorem E8 : holdC C2 2 1 false = (C3, 0) := rfl
theorem E9 : forgetC C3 2 1 = (C4, 0) := rfl
theorem E10 : forgetC C4 2 1 = (C4, 6) := rfl
theorem E11 : latestC C4 2 6 = (Snap.zero, 4) := rfl
theorem E13 : verP [aS, bS] = -1 := by
  refine verP_all fun i hi => ?_
  have hi : i < 2 := hi
  rcases (by omega : i = 0 ∨ i = 1) with rfl | rfl
  · decide
  · show (validB bS && contB bS (some aS)) = true
    have h1 : validB bS = true := bS_valid 7 (by decide)
    rw [h1]
    show (decide (bS.q = aS.q + 1) && (decide (aS.d ≤ bS.d) && decide (bS.pv = sumP aS))) = true
    rw [decide_eq_true (show bS.pv = sumP aS from rfl)]; decide
theorem G0 : GoodC C0 := GoodC.empty
theorem G1 : GoodC C1 := by have := G0.add aS; rw [E2] at this; exact this
theorem G2 : GoodC C2 := by have := G1.hold 2 1 true; rw [E6] at this; exact this
theorem G3 : GoodC C3 := by have := G2.hold 2 1 false; rw [E8] at this; exact this
theorem G4 : GoodC C4 := by have := G3.forget 2 1; rw [E9] at this; exact this

theorem N1 (R : Rd) (hG : ShaG R) {g : Nat} {h : Hp} (hL : LogIs g C0 h) : Fn Tryd.prog 16 [.pointer (some ⟨g, 0, .none⟩), .int .i64 2, .int .i64 7, .agg ⟨[.string ⟨⟨nm0⟩⟩, .int .i64 0, .int .i64 5]⟩, .int .i64 3, .int .i64 100] h R (fun v h' => v = .tuple ⟨[.agg ⟨aS.cells⟩, .int .i64 0]⟩ ∧ LogIs g C0 h') := by
  have := Next_okL R hG hL G0 (by decide) 2 7 nm0 0 5 3 100
  rw [E1] at this
  exact this
theorem N2 (R : Rd) (hG : ShaG R) {g : Nat} {h : Hp} (hL : LogIs g C1 h) : Fn Tryd.prog 16 [.pointer (some ⟨g, 0, .none⟩), .int .i64 2, .int .i64 6, .agg ⟨[.string ⟨⟨nm0⟩⟩, .int .i64 0, .int .i64 5]⟩, .int .i64 3, .int .i64 100] h R (fun v h' => v = .tuple ⟨[.agg ⟨Snap.zero.cells⟩, .int .i64 13]⟩ ∧ LogIs g C1 h') := by
  have := Next_okL R hG hL G1 (by decide) 2 6 nm0 0 5 3 100
  rw [E3] at this
  exact this
theorem N3 (R : Rd) (hG : ShaG R) {g : Nat} {h : Hp} (hL : LogIs g C1 h) : Fn Tryd.prog 16 [.pointer (some ⟨g, 0, .none⟩), .int .i64 2, .int .i64 7, .agg ⟨[.string ⟨⟨nm0⟩⟩, .int .i64 0, .int .i64 5]⟩, .int .i64 3, .int .i64 100] h R (fun v h' => v = .tuple ⟨[.agg ⟨bS.cells⟩, .int .i64 0]⟩ ∧ LogIs g C1 h') := by
  have := Next_okL R hG hL G1 (by decide) 2 7 nm0 0 5 3 100
  rw [E4] at this
  exact this
theorem A1 (R : Rd) (hG : ShaG R) {g : Nat} {h : Hp} (hL : LogIs g C0 h) : Fn Tryd.prog 17 [.pointer (some ⟨g, 0, .none⟩), .agg ⟨aS.cells⟩] h R (fun v h' => v = .int .i64 0 ∧ LogIs g C1 h') := by
  have := Add_ok R hG hL G0 (by decide) aS (validB_iff.1 aS_valid).ok
  rw [E2] at this
  exact this
theorem H1 (R : Rd) {g : Nat} {h : Hp} (hL : LogIs g C1 h) : Fn Tryd.prog 36 [.pointer (some ⟨g, 0, .none⟩), .int .i64 2, .int .i64 1, .bool true] h R (fun v h' => v = .int .i64 0 ∧ LogIs g C2 h') := by
  have := Hold_ok R hL G1 (by decide) 2 1 true
  rw [E6] at this
  exact this
theorem F1 (R : Rd) {g : Nat} {h : Hp} (hL : LogIs g C2 h) : Fn Tryd.prog 37 [.pointer (some ⟨g, 0, .none⟩), .int .i64 2, .int .i64 1] h R (fun v h' => v = .int .i64 14 ∧ LogIs g C2 h') := by
  have := Forget_ok R hL G2 (by decide) 2 1
  rw [E7] at this
  exact this
theorem H2 (R : Rd) {g : Nat} {h : Hp} (hL : LogIs g C2 h) : Fn Tryd.prog 36 [.pointer (some ⟨g, 0, .none⟩), .int .i64 2, .int .i64 1, .bool false] h R (fun v h' => v = .int .i64 0 ∧ LogIs g C3 h') := by
  have := Hold_ok R hL G2 (by decide) 2 1 false
  rw [E8] at this
  exact this
theorem F2 (R : Rd) {g : Nat} {h : Hp} (hL : LogIs g C3 h) : Fn Tryd.prog 37 [.pointer (some ⟨g, 0, .none⟩), .int .i64 2, .int .i64 1] h R (fun v h' => v = .int .i64 0 ∧ LogIs g C4 h') := by
  have := Forget_ok R hL G3 (by decide) 2 1
  rw [E9] at this
  exact this
theorem F3 (R : Rd) {g : Nat} {h : Hp} (hL : LogIs g C4 h) : Fn Tryd.prog 37 [.pointer (some ⟨g, 0, .none⟩), .int .i64 2, .int .i64 1] h R (fun v h' => v = .int .i64 6 ∧ LogIs g C4 h') := by
  have := Forget_ok R hL G4 (by decide) 2 1
  rw [E10] at this
  exact this
theorem L1 (R : Rd) {g : Nat} {h : Hp} (hL : LogIs g C4 h) : Fn Tryd.prog 18 [.pointer (some ⟨g, 0, .none⟩), .int .i64 2, .int .i64 6] h R (fun v h' => v = .tuple ⟨[.agg ⟨Snap.zero.cells⟩, .int .i64 4]⟩ ∧ LogIs g C4 h') := by
  have := Latest_okL R hL G4 (by decide) 2 6
  rw [E11] at this
  exact this
theorem S1 (R : Rd) (hG : ShaG R) : Fn Tryd.prog 20 [.agg ⟨aS.cells⟩] [] R (fun v h => v = .tuple ⟨[.string ⟨⟨sumP aS⟩⟩, .int .i64 0]⟩ ∧ h = []) := by
  have := Sum_okS R hG aS
  rw [if_pos aS_valid, if_pos aS_valid] at this
  exact this
theorem O1 (R : Rd) {g : Nat} {h : Hp} (hL : LogIs g C4 h) : Fn Tryd.prog 15 [.pointer (some ⟨g, 0, .none⟩), .int .i64 2] h R (fun v h' => ∃ A cap h1 xs, v = .slice A 1 cap ∧ LogIs g C4 h1 ∧ h' = .row A 1 cap 34 10 xs (0, 0) :: h1) :=
  Fn.ent (Of_okL R hL G4 (by decide) 2) fun v h' hq => by
    obtain ⟨A, cap, h1, _, hv, hl, hh⟩ := hq
    exact ⟨h', Ent.refl _, A, cap, h1, _, hv, hl, hh⟩
theorem V1 (R : Rd) (hG : ShaG R) {A : Option Addr} {cap : Nat} (hs : SlR R 10 (.slice A 2 cap) 2 (snaps [aS, bS])) : Fn Tryd.prog 19 [.slice A 2 cap] [] R (fun v h => v = .int .i64 (-1) ∧ h = []) := by
  have := Verify_ok R hG (l := [aS, bS]) hs (by decide)
  rw [E13] at this
  exact this
theorem root_ok (R : Rd) : Fn Tryd.prog 35 [] [] R (fun v h => v = .agg ⟨[.string ⟨⟨nm0⟩⟩, .int .i64 0, .int .i64 5]⟩ ∧ h = []) := by
  refine fn_of_vc mixed tabOk Tryd.func35 rfl (by kernel_rfl) (Nat.le_of_ble_eq_true rfl) ?_
  intro g1
  refine ⟨rfl, rfl, 0, rfl, rfl, Nat.le_of_ble_eq_true rfl, ?_⟩
  refine ⟨[.string ⟨⟨nm0⟩⟩, .int .i64 0, .int .i64 5], rdBlk 0 rfl, rfl, ?_⟩
  exact ⟨_, Ent.nil _, rfl, rfl⟩

set_option maxRecDepth 100000 in
set_option maxHeartbeats 4000000 in
theorem awake26_ok (R : Rd) (hG : ShaG R) : Fn Tryd.prog 13 [] [] R (fun v h => v = .bool true ∧ h = []) := by
  have hsl := sumP_length aS
  refine fn_of_vc mixed tabOk Tryd.func13 rfl (by kernel_rfl) (Nat.le_of_ble_eq_true rfl) ?_
  refine ⟨[], _, New_okS _, ?_⟩
  rintro _ _ ⟨g, rfl, r, st, c, hok, hch, rfl⟩
  refine ⟨[], _, root_ok _, ?_⟩
  rintro _ _ ⟨rfl, rfl⟩
  refine ⟨[0, 0, 0], _, N1 _ (hG.rh _) ⟨r, st, c, hok, hch, rfl⟩, ?_⟩
  rintro _ _ ⟨rfl, r, st, c, hok, hch, rfl⟩
  intro g2
  refine ⟨rfl, rfl, 3, rfl, rfl, Nat.le_of_ble_eq_true rfl, ?_⟩
  repeat (first | (refine ⟨fun h => ?_, fun h => ?_⟩; rotate_left 1; (focus (exfalso; (first | (with_reducible (cases h; done)) | (revert h; simp; done) | (revert h; simp; omega) | (revert h; simp [*]; done)))); clear h) | (refine ⟨fun h => ?_, fun h => ?_⟩; (focus (exfalso; (first | (with_reducible (cases h; done)) | (revert h; simp; done) | (revert h; simp; omega) | (revert h; simp [*]; done)))); clear h))
  refine ⟨.int .i64 1, ld 3 rfl rfl, ?_⟩
  repeat (first | (refine ⟨fun h => ?_, fun h => ?_⟩; rotate_left 1; (focus (exfalso; (first | (with_reducible (cases h; done)) | (revert h; simp; done) | (revert h; simp; omega) | (revert h; simp [*]; done)))); clear h) | (refine ⟨fun h => ?_, fun h => ?_⟩; (focus (exfalso; (first | (with_reducible (cases h; done)) | (revert h; simp; done) | (revert h; simp; omega) | (revert h; simp [*]; done)))); clear h))
  refine ⟨.int .i64 7, ld 3 rfl rfl, ?_⟩
  repeat (first | (refine ⟨fun h => ?_, fun h => ?_⟩; rotate_left 1; (focus (exfalso; (first | (with_reducible (cases h; done)) | (revert h; simp; done) | (revert h; simp; omega) | (revert h; simp [*]; done)))); clear h) | (refine ⟨fun h => ?_, fun h => ?_⟩; (focus (exfalso; (first | (with_reducible (cases h; done)) | (revert h; simp; done) | (revert h; simp; omega) | (revert h; simp [*]; done)))); clear h))
  refine ⟨.string ⟨⟨[]⟩⟩, ld 3 rfl rfl, ?_⟩
  repeat (first | (refine ⟨fun h => ?_, fun h => ?_⟩; rotate_left 1; (focus (exfalso; (first | (with_reducible (cases h; done)) | (revert h; simp; done) | (revert h; simp; omega) | (revert h; simp [*]; done)))); clear h) | (refine ⟨fun h => ?_, fun h => ?_⟩; (focus (exfalso; (first | (with_reducible (cases h; done)) | (revert h; simp; done) | (revert h; simp; omega) | (revert h; simp [*]; done)))); clear h))
  refine ⟨aS.cells, rdBlk 3 rfl, rfl, ?_⟩
  repeat (first | (refine ⟨fun h => ?_, fun h => ?_⟩; rotate_left 1; (focus (exfalso; (first | (with_reducible (cases h; done)) | (revert h; simp; done) | (revert h; simp; omega) | (revert h; simp [*]; done)))); clear h) | (refine ⟨fun h => ?_, fun h => ?_⟩; (focus (exfalso; (first | (with_reducible (cases h; done)) | (revert h; simp; done) | (revert h; simp; omega) | (revert h; simp [*]; done)))); clear h))
  refine ⟨[0, 0, 0], _, A1 _ (hG.rh _) ⟨r, st, c, hok, hch, rfl⟩, ?_⟩
  rintro _ _ ⟨rfl, r, st, c, hok, hch, rfl⟩
  repeat (first | (refine ⟨fun h => ?_, fun h => ?_⟩; rotate_left 1; (focus (exfalso; (first | (with_reducible (cases h; done)) | (revert h; simp; done) | (revert h; simp; omega) | (revert h; simp [*]; done)))); clear h) | (refine ⟨fun h => ?_, fun h => ?_⟩; (focus (exfalso; (first | (with_reducible (cases h; done)) | (revert h; simp; done) | (revert h; simp; omega) | (revert h; simp [*]; done)))); clear h))
  refine ⟨[], _, root_ok _, ?_⟩
  rintro _ _ ⟨rfl, rfl⟩
  refine ⟨[1, 1, 1], _, N2 _ (hG.rh _) ⟨r, st, c, hok, hch, rfl⟩, ?_⟩
  rintro _ _ ⟨rfl, r, st, c, hok, hch, rfl⟩
  intro g4
  refine ⟨rfl, rfl, 4, rfl, rfl, Nat.le_of_ble_eq_true rfl, ?_⟩
  refine ⟨[], _, root_ok _, ?_⟩
  rintro _ _ ⟨rfl, rfl⟩
  refine ⟨[1, 1, 1], _, N3 _ (hG.rh _) ⟨r, st, c, hok, hch, rfl⟩, ?_⟩
  rintro _ _ ⟨rfl, r, st, c, hok, hch, rfl⟩
  intro g6
  refine ⟨rfl, rfl, 5, rfl, rfl, Nat.le_of_ble_eq_true rfl, ?_⟩
  refine ⟨aS.cells, rdBlk 0 rfl, rfl, ?_⟩
  refine ⟨[], _, S1 _ (hG.rh _), ?_⟩
  rintro _ _ ⟨rfl, rfl⟩
  repeat (first | (refine ⟨fun h => ?_, fun h => ?_⟩; rotate_left 1; (focus (exfalso; (first | (with_reducible (cases h; done)) | (revert h; simp; done) | (revert h; simp; omega) | (revert h; simp [*]; done)))); clear h) | (refine ⟨fun h => ?_, fun h => ?_⟩; (focus (exfalso; (first | (with_reducible (cases h; done)) | (revert h; simp; done) | (revert h; simp; omega) | (revert h; simp [*]; done)))); clear h))
  refine ⟨.int .i64 2, ld 5 rfl rfl, ?_⟩
  repeat (first | (refine ⟨fun h => ?_, fun h => ?_⟩; rotate_left 1; (focus (exfalso; (first | (with_reducible (cases h; done)) | (revert h; simp; done) | (revert h; simp; omega) | (revert h; simp [*]; done)))); clear h) | (refine ⟨fun h => ?_, fun h => ?_⟩; (focus (exfalso; (first | (with_reducible (cases h; done)) | (revert h; simp; done) | (revert h; simp; omega) | (revert h; simp [*]; done)))); clear h))
  refine ⟨.string ⟨⟨sumP aS⟩⟩, ld 5 rfl rfl, ?_⟩
  repeat (first | (refine ⟨fun h => ?_, fun h => ?_⟩; rotate_left 1; (focus (exfalso; (first | (with_reducible (cases h; done)) | (revert h; simp; done) | (revert h; simp; omega) | (revert h; simp [*]; done)))); clear h) | (refine ⟨fun h => ?_, fun h => ?_⟩; (focus (exfalso; (first | (with_reducible (cases h; done)) | (revert h; simp; done) | (revert h; simp; omega) | (revert h; simp [*]; done)))); clear h))
  refine ⟨[2, 2, 2], _, H1 _ ⟨r, st, c, hok, hch, rfl⟩, ?_⟩
  rintro _ _ ⟨rfl, r, st, c, hok, hch, rfl⟩
  repeat (first | (refine ⟨fun h => ?_, fun h => ?_⟩; rotate_left 1; (focus (exfalso; (first | (with_reducible (cases h; done)) | (revert h; simp; done) | (revert h; simp; omega) | (revert h; simp [*]; done)))); clear h) | (refine ⟨fun h => ?_, fun h => ?_⟩; (focus (exfalso; (first | (with_reducible (cases h; done)) | (revert h; simp; done) | (revert h; simp; omega) | (revert h; simp [*]; done)))); clear h))
  refine ⟨[3, 3, 3], _, F1 _ ⟨r, st, c, hok, hch, rfl⟩, ?_⟩
  rintro _ _ ⟨rfl, r, st, c, hok, hch, rfl⟩
  repeat (first | (refine ⟨fun h => ?_, fun h => ?_⟩; rotate_left 1; (focus (exfalso; (first | (with_reducible (cases h; done)) | (revert h; simp; done) | (revert h; simp; omega) | (revert h; simp [*]; done)))); clear h) | (refine ⟨fun h => ?_, fun h => ?_⟩; (focus (exfalso; (first | (with_reducible (cases h; done)) | (revert h; simp; done) | (revert h; simp; omega) | (revert h; simp [*]; done)))); clear h))
  refine ⟨[3, 3, 3], _, H2 _ ⟨r, st, c, hok, hch, rfl⟩, ?_⟩
  rintro _ _ ⟨rfl, r, st, c, hok, hch, rfl⟩
  repeat (first | (refine ⟨fun h => ?_, fun h => ?_⟩; rotate_left 1; (focus (exfalso; (first | (with_reducible (cases h; done)) | (revert h; simp; done) | (revert h; simp; omega) | (revert h; simp [*]; done)))); clear h) | (refine ⟨fun h => ?_, fun h => ?_⟩; (focus (exfalso; (first | (with_reducible (cases h; done)) | (revert h; simp; done) | (revert h; simp; omega) | (revert h; simp [*]; done)))); clear h))
  refine ⟨[3, 3, 3], _, F2 _ ⟨r, st, c, hok, hch, rfl⟩, ?_⟩
  rintro _ _ ⟨rfl, r, st, c, hok, hch, rfl⟩
  repeat (first | (refine ⟨fun h => ?_, fun h => ?_⟩; rotate_left 1; (focus (exfalso; (first | (with_reducible (cases h; done)) | (revert h; simp; done) | (revert h; simp; omega) | (revert h; simp [*]; done)))); clear h) | (refine ⟨fun h => ?_, fun h => ?_⟩; (focus (exfalso; (first | (with_reducible (cases h; done)) | (revert h; simp; done) | (revert h; simp; omega) | (revert h; simp [*]; done)))); clear h))
  refine ⟨[3, 3, 3], _, F3 _ ⟨r, st, c, hok, hch, rfl⟩, ?_⟩
  rintro _ _ ⟨rfl, r, st, c, hok, hch, rfl⟩
  repeat (first | (refine ⟨fun h => ?_, fun h => ?_⟩; rotate_left 1; (focus (exfalso; (first | (with_reducible (cases h; done)) | (revert h; simp; done) | (revert h; simp; omega) | (revert h; simp [*]; done)))); clear h) | (refine ⟨fun h => ?_, fun h => ?_⟩; (focus (exfalso; (first | (with_reducible (cases h; done)) | (revert h; simp; done) | (revert h; simp; omega) | (revert h; simp [*]; done)))); clear h))
  refine ⟨[3, 3, 3], _, L1 _ ⟨r, st, c, hok, hch, rfl⟩, ?_⟩
  rintro _ _ ⟨rfl, r, st, c, hok, hch, rfl⟩
  intro g10
  refine ⟨rfl, rfl, 6, rfl, rfl, Nat.le_of_ble_eq_true rfl, ?_⟩
  repeat (first | (refine ⟨fun h => ?_, fun h => ?_⟩; rotate_left 1; (focus (exfalso; (first | (with_reducible (cases h; done)) | (revert h; simp; done) | (revert h; simp; omega) | (revert h; simp [*]; done)))); clear h) | (refine ⟨fun h => ?_, fun h => ?_⟩; (focus (exfalso; (first | (with_reducible (cases h; done)) | (revert h; simp; done) | (revert h; simp; omega) | (revert h; simp [*]; done)))); clear h))
  refine ⟨[3, 3, 3], _, O1 _ ⟨r, st, c, hok, hch, rfl⟩, ?_⟩
  rintro _ _ ⟨A, cap, h1, xs, rfl, ⟨r, st, c, hok, hch, rfl⟩, rfl⟩
  repeat (first | (refine ⟨fun h => ?_, fun h => ?_⟩; rotate_left 1; (focus (exfalso; (first | (with_reducible (cases h; done)) | (revert h; simp; done) | (revert h; simp; omega) | (revert h; simp [*]; done)))); clear h) | (refine ⟨fun h => ?_, fun h => ?_⟩; (focus (exfalso; (first | (with_reducible (cases h; done)) | (revert h; simp; done) | (revert h; simp; omega) | (revert h; simp [*]; done)))); clear h))
  refine ⟨aS.cells, rdBlk 0 rfl, rfl, ?_⟩
  repeat (first | (refine ⟨fun h => ?_, fun h => ?_⟩; rotate_left 1; (focus (exfalso; (first | (with_reducible (cases h; done)) | (revert h; simp; done) | (revert h; simp; omega) | (revert h; simp [*]; done)))); clear h) | (refine ⟨fun h => ?_, fun h => ?_⟩; (focus (exfalso; (first | (with_reducible (cases h; done)) | (revert h; simp; done) | (revert h; simp; omega) | (revert h; simp [*]; done)))); clear h))
  refine ⟨bS.cells, rdBlk 2 rfl, rfl, ?_⟩
  repeat (first | (refine ⟨fun h => ?_, fun h => ?_⟩; rotate_left 1; (focus (exfalso; (first | (with_reducible (cases h; done)) | (revert h; simp; done) | (revert h; simp; omega) | (revert h; simp [*]; done)))); clear h) | (refine ⟨fun h => ?_, fun h => ?_⟩; (focus (exfalso; (first | (with_reducible (cases h; done)) | (revert h; simp; done) | (revert h; simp; omega) | (revert h; simp [*]; done)))); clear h))
  refine ⟨rfl, fun gv => ?_⟩
  repeat (first | (refine ⟨fun h => ?_, fun h => ?_⟩; rotate_left 1; (focus (exfalso; (first | (with_reducible (cases h; done)) | (revert h; simp; done) | (revert h; simp; omega) | (revert h; simp [*]; done)))); clear h) | (refine ⟨fun h => ?_, fun h => ?_⟩; (focus (exfalso; (first | (with_reducible (cases h; done)) | (revert h; simp; done) | (revert h; simp; omega) | (revert h; simp [*]; done)))); clear h))
  refine ⟨[], _, V1 _ (hG.rh _) (SlR.own 8 rfl rfl (.inr ⟨gv, rfl⟩)), ?_⟩
  rintro _ _ ⟨rfl, rfl⟩
  repeat (first | (refine ⟨fun h => ?_, fun h => ?_⟩; rotate_left 1; (focus (exfalso; (first | (with_reducible (cases h; done)) | (revert h; simp; done) | (revert h; simp; omega) | (revert h; simp [*]; done)))); clear h) | (refine ⟨fun h => ?_, fun h => ?_⟩; (focus (exfalso; (first | (with_reducible (cases h; done)) | (revert h; simp; done) | (revert h; simp; omega) | (revert h; simp [*]; done)))); clear h))
  exact ⟨_, Ent.nil _, rfl, rfl⟩

end Go.Proofs.YtbgfnofjnbpdgaaDoor
