/-
  Transfer: contracts of the reference's heads and parts.
-/
import Derived.Test.YtoddabjacjkjbaaDoorTrg
import Derived.Test.YtoddabjacjkjbaaDoorW3
namespace Go.Proofs.YtoddabjacjkjbaaDoor
open Go Go.RowKit
set_option linter.unusedVariables false

theorem slr_src {R : Rd} {sz n cap : Nat} {A : Option Addr} {xs : List Value} (h : SlR R sz (.slice A n cap) n xs) : ∀ j u, xs[j]? = some u → ∃ a, A = some a ∧ R (a.add j) u := by
  obtain ⟨_, A', cap', e, h⟩ := h
  cases e
  exact h
/-- A head that fits. -/
def FitH (h : Hd) : Prop := WfH h ∧ rootOf h.sums = h.st
instance instDecFitH (h : Hd) : Decidable (FitH h) := by unfold FitH; exact inferInstance
theorem rParts_ok (R : Rd) (n : Nat) (hn : n ≤ 1000000000) : Fn Tryd.prog 44 [.int .i64 n] [] R (fun v h => v = .int .i64 (partsN n) ∧ h = []) := by
  refine fn_of_vc mixed tabOk Tryd.func44 rfl (by kernel_rfl) (Nat.le_of_ble_eq_true rfl) ?_
  (intro z hz; obtain rfl : z = ((n + 512 : Nat) : Int) := (by first | (rw [IntKind.wrap_i64] at hz; omega) | (rw [IntKind.wrap_u64] at hz; omega) | omega); clear hz)
  (intro z hz; obtain rfl : z = ((n + 511 : Nat) : Int) := (by first | (rw [IntKind.wrap_i64] at hz; omega) | (rw [IntKind.wrap_u64] at hz; omega) | omega); clear hz)
  refine ⟨by decide, ?_⟩
  intro z hz
  obtain rfl := quo_nat (a := n + 511) (b := 512) rfl (by omega) hz
  exact ⟨_, Ent.refl _, rfl, rfl⟩
theorem There_ok (R : Rd) (off n : Int) (h1 : -9223372036854775808 ≤ off) (h2 : off ≤ 9223372036854775807) :
    Fn Tryd.prog 41 [.int .i64 n, .int .i64 off] [] R (fun v h => v = .bool (thereB n off) ∧ h = []) := by
  refine fn_of_vc mixed tabOk Tryd.func41 rfl (by kernel_rfl) (Nat.le_of_ble_eq_true rfl) ?_
  by_cases c1 : 0 ≤ off
  case neg =>
    repeat (first | (refine ⟨fun h => ?_, fun h => ?_⟩; rotate_left 1; (focus (exfalso; (first | (with_reducible (cases h; done)) | (revert h; simp; done) | (revert h; simp; omega) | (revert h; simp [*]; done)))); clear h) | (refine ⟨fun h => ?_, fun h => ?_⟩; (focus (exfalso; (first | (with_reducible (cases h; done)) | (revert h; simp; done) | (revert h; simp; omega) | (revert h; simp [*]; done)))); clear h))
    exact ⟨_, Ent.refl _, no_D rfl (fun h => by omega), rfl⟩
  repeat (first | (refine ⟨fun h => ?_, fun h => ?_⟩; rotate_left 1; (focus (exfalso; (first | (with_reducible (cases h; done)) | (revert h; simp; done) | (revert h; simp; omega) | (revert h; simp [*]; done)))); clear h) | (refine ⟨fun h => ?_, fun h => ?_⟩; (focus (exfalso; (first | (with_reducible (cases h; done)) | (revert h; simp; done) | (revert h; simp; omega) | (revert h; simp [*]; done)))); clear h))
  by_cases c2 : off < n
  case neg =>
    repeat (first | (refine ⟨fun h => ?_, fun h => ?_⟩; rotate_left 1; (focus (exfalso; (first | (with_reducible (cases h; done)) | (revert h; simp; done) | (revert h; simp; omega) | (revert h; simp [*]; done)))); clear h) | (refine ⟨fun h => ?_, fun h => ?_⟩; (focus (exfalso; (first | (with_reducible (cases h; done)) | (revert h; simp; done) | (revert h; simp; omega) | (revert h; simp [*]; done)))); clear h))
    exact ⟨_, Ent.refl _, no_D rfl (fun h => by omega), rfl⟩
  repeat (first | (refine ⟨fun h => ?_, fun h => ?_⟩; rotate_left 1; (focus (exfalso; (first | (with_reducible (cases h; done)) | (revert h; simp; done) | (revert h; simp; omega) | (revert h; simp [*]; done)))); clear h) | (refine ⟨fun h => ?_, fun h => ?_⟩; (focus (exfalso; (first | (with_reducible (cases h; done)) | (revert h; simp; done) | (revert h; simp; omega) | (revert h; simp [*]; done)))); clear h))
  refine ⟨by decide, ?_⟩
  intro z hz
  obtain rfl := rem_nat (a := off.toNat) (b := 512) (by omega) hz
  clear hz
  repeat (first | (refine ⟨fun h => ?_, fun h => ?_⟩; rotate_left 1; (focus (exfalso; (first | (with_reducible (cases h; done)) | (revert h; simp; done) | (revert h; simp; omega) | (revert h; simp [*]; done)))); clear h) | (refine ⟨fun h => ?_, fun h => ?_⟩; (focus (exfalso; (first | (with_reducible (cases h; done)) | (revert h; simp; done) | (revert h; simp; omega) | (revert h; simp [*]; done)))); clear h))
  by_cases c3 : ((off.toNat % 512 : Nat) : Int) = 0
  case neg =>
    exact ⟨_, Ent.refl _, no_D (decide_eq_false c3) (fun h => by omega), rfl⟩
  exact ⟨_, Ent.refl _, yes_D (decide_eq_true c3) ⟨c1, c2, by omega⟩, rfl⟩
/-! ### the encoding by the reference -/
def itS (s : Str) : Item := ⟨6, 0, 0, false, s, 0⟩
def itU (n : Nat) : Item := ⟨1, n, 0, false, [], 0⟩
def itCt (n : Nat) : Item := ⟨7, 0, n, false, [], 0⟩
def itB (s : Str) : Item := ⟨4, 0, 0, false, s, 0⟩
def iC (l : List Item) : List Value := l.flatMap Item.cells
theorem iC_app (a b : List Item) : iC (a ++ b) = iC a ++ iC b := List.flatMap_append
theorem iC_length (l : List Item) : (iC l).length = l.length * 6 := flat_len fun _ _ => rfl
theorem iC_one (l : List Item) : allOne (iC l) = true := allOne_of fun u hu => by
  obtain ⟨x, _, hx⟩ := List.mem_flatMap.1 hu
  simp only [Item.cells, List.mem_cons, List.not_mem_nil, or_false] at hx
  rcases hx with rfl | rfl | rfl | rfl | rfl | rfl <;> rfl
theorem enc_fold : ∀ (l : List Item) (bs : Str), (∀ x ∈ l, ∃ y, enc1 x = some y) → l.foldl put1 (bs, 0) = (bs ++ l.flatMap fun x => (enc1 x).getD [], 0)
  | [], bs, _ => by simp
  | x :: l, bs, h => by
    obtain ⟨y, hy⟩ := h x (by simp)
    rw [List.foldl_cons, put_some hy, if_pos rfl, enc_fold l _ fun z hz => h z (by simp [hz]), List.flatMap_cons, hy, List.append_assoc]; rfl
theorem encS_all {l : List Item} (h : ∀ x ∈ l, ∃ y, enc1 x = some y) : encS l = (l.flatMap fun x => (enc1 x).getD [], 0) := by
  unfold encS
  rw [enc_fold l [] h, List.nil_append]
theorem enc_itS {s : Str} (h : s.length = 32) : enc1 (itS s) = some s := by
  show (if s.length = 32 then some s else none) = _
  rw [if_pos h]
theorem enc_itU (n : Nat) : enc1 (itU n) = some (num n) := rfl
theorem enc_itCt (n : Nat) : enc1 (itCt n) = some (num n) := by
  show (if (n : Int) < 0 then none else some (num (n : Int).toNat)) = _
  rw [if_neg (by omega), Int.toNat_natCast]
theorem enc_itB (s : Str) : enc1 (itB s) = some (num s.length ++ s) := rfl
theorem ok_itS {s : Str} (h : s.length ≤ 100000) : (itS s).Ok := ⟨(by decide : (0 : Nat) ≤ 18446744073709551615), (by decide : (-9223372036854775808 : Int) ≤ 0), (by decide : (0 : Int) ≤ 9223372036854775807), (by decide : (-9223372036854775808 : Int) ≤ 6), (by decide : (6 : Int) ≤ 9223372036854775807), (by decide : (-9223372036854775808 : Int) ≤ 0), (by decide : (0 : Int) ≤ 9223372036854775807), by show s.length ≤ _; omega⟩
theorem ok_itB {s : Str} (h : s.length ≤ 100000) : (itB s).Ok := ⟨(by decide : (0 : Nat) ≤ 18446744073709551615), (by decide : (-9223372036854775808 : Int) ≤ 0), (by decide : (0 : Int) ≤ 9223372036854775807), (by decide : (-9223372036854775808 : Int) ≤ 4), (by decide : (4 : Int) ≤ 9223372036854775807), (by decide : (-9223372036854775808 : Int) ≤ 0), (by decide : (0 : Int) ≤ 9223372036854775807), by show s.length ≤ _; omega⟩
theorem ok_itU {n : Nat} (h : n ≤ 18446744073709551615) : (itU n).Ok := ⟨h, (by decide : (-9223372036854775808 : Int) ≤ 0), (by decide : (0 : Int) ≤ 9223372036854775807), (by decide : (-9223372036854775808 : Int) ≤ 1), (by decide : (1 : Int) ≤ 9223372036854775807), (by decide : (-9223372036854775808 : Int) ≤ 0), (by decide : (0 : Int) ≤ 9223372036854775807), (by decide : (0 : Nat) ≤ 9223372036854775807)⟩
theorem ok_itCt {n : Nat} (h : n ≤ 1000000) : (itCt n).Ok := ⟨(by decide : (0 : Nat) ≤ 18446744073709551615), by show (-9223372036854775808 : Int) ≤ n; omega, by show (n : Int) ≤ _; omega, (by decide : (-9223372036854775808 : Int) ≤ 7), (by decide : (7 : Int) ≤ 9223372036854775807), (by decide : (-9223372036854775808 : Int) ≤ 0), (by decide : (0 : Int) ≤ 9223372036854775807), (by decide : (0 : Nat) ≤ 9223372036854775807)⟩
def itemsL (l : List Str) : List Item := itCt l.length :: l.map itS
def itemsH (h : Hd) : List Item := [itS h.st, itU h.ix.toNat, itU h.sz.toNat] ++ itemsL h.sums
def itemsP (p : Pt) : List Item := [itS p.st, itU p.ix.toNat, itU p.off.toNat, itB p.dt] ++ itemsL p.path
theorem itemsL_length (l : List Str) : (itemsL l).length = l.length + 1 := by simp [itemsL]
theorem flat_sums {l : List Str} (h : ∀ x ∈ l, x.length = 32) : (l.map itS).flatMap (fun x => (enc1 x).getD []) = cat l := by
  induction l with
  | nil => rfl
  | cons a l ih => rw [List.map_cons, List.flatMap_cons, enc_itS (h a (by simp)), ih fun x hx => h x (by simp [hx]), cat_cons]; rfl
theorem some_L {l : List Str} (h : ∀ x ∈ l, x.length = 32) : ∀ x ∈ itemsL l, ∃ y, enc1 x = some y := fun x hx => by
  rcases List.mem_cons.1 hx with rfl | hx
  · exact ⟨_, enc_itCt _⟩
  · obtain ⟨s, hs, rfl⟩ := List.mem_map.1 hx
    exact ⟨_, enc_itS (h s hs)⟩
theorem encS_H {h : Hd} (w : WfH h) : encS (itemsH h) = (encH h, 0) := by
  have h32 := mem_sums w.sums
  rw [encS_all]
  · unfold itemsH itemsL
    rw [List.flatMap_append]
    simp only [List.flatMap_cons, List.flatMap_nil, flat_sums h32, enc_itCt, enc_itS w.st, enc_itU, Option.getD_some, List.append_nil, encH, List.append_assoc]
  · intro x hx
    rcases List.mem_append.1 hx with hx | hx
    · simp only [List.mem_cons, List.not_mem_nil, or_false] at hx
      rcases hx with rfl | rfl | rfl
      · exact ⟨_, enc_itS w.st⟩
      · exact ⟨_, enc_itU _⟩
      · exact ⟨_, enc_itU _⟩
    · exact some_L h32 x hx
theorem encS_P {p : Pt} (w : WfP p) : encS (itemsP p) = (encP p, 0) := by
  have h32 := mem_sums w.sums
  rw [encS_all]
  · unfold itemsP itemsL
    rw [List.flatMap_append]
    simp only [List.flatMap_cons, List.flatMap_nil, flat_sums h32, enc_itCt, enc_itS w.st, enc_itU, enc_itB, Option.getD_some, List.append_nil, encP, List.append_assoc]
  · intro x hx
    rcases List.mem_append.1 hx with hx | hx
    · simp only [List.mem_cons, List.not_mem_nil, or_false] at hx
      rcases hx with rfl | rfl | rfl | rfl
      · exact ⟨_, enc_itS w.st⟩
      · exact ⟨_, enc_itU _⟩
      · exact ⟨_, enc_itU _⟩
      · exact ⟨_, enc_itB _⟩
    · exact some_L h32 x hx
theorem oks_L {l : List Str} (hn : l.length ≤ 1000) (h : ∀ x ∈ l, x.length = 32) : ∀ x ∈ itemsL l, x.Ok ∧ x.s.length ≤ 100000 := fun x hx => by
  rcases List.mem_cons.1 hx with rfl | hx
  · exact ⟨ok_itCt (by omega), Nat.zero_le _⟩
  · obtain ⟨s, hs, rfl⟩ := List.mem_map.1 hx
    have := h s hs
    exact ⟨ok_itS (by omega), by show s.length ≤ _; omega⟩
theorem oks_H {h : Hd} (w : WfH h) : ∀ x ∈ itemsH h, x.Ok ∧ x.s.length ≤ 100000 := fun x hx => by
  obtain ⟨a1, a2, a3, a4, a5, a6, a7, a8⟩ := w
  rcases List.mem_append.1 hx with hx | hx
  · simp only [List.mem_cons, List.not_mem_nil, or_false] at hx
    rcases hx with rfl | rfl | rfl
    · exact ⟨ok_itS (by omega), by show h.st.length ≤ _; omega⟩
    · exact ⟨ok_itU (by omega), Nat.zero_le _⟩
    · exact ⟨ok_itU (by omega), Nat.zero_le _⟩
  · exact oks_L (by omega) (mem_sums a3) x hx
theorem oks_P {p : Pt} (w : WfP p) : ∀ x ∈ itemsP p, x.Ok ∧ x.s.length ≤ 100000 := fun x hx => by
  obtain ⟨a1, a2, a3, a4, a5, a6, a7, a8, a9, a10⟩ := w
  rcases List.mem_append.1 hx with hx | hx
  · simp only [List.mem_cons, List.not_mem_nil, or_false] at hx
    rcases hx with rfl | rfl | rfl | rfl
    · exact ⟨ok_itS (by omega), by show p.st.length ≤ _; omega⟩
    · exact ⟨ok_itU (by omega), Nat.zero_le _⟩
    · exact ⟨ok_itU (by omega), Nat.zero_le _⟩
    · exact ⟨ok_itB (by omega), by show p.dt.length ≤ _; omega⟩
  · exact oks_L (by omega) (mem_sums a10) x hx

theorem items_own {R : Rd} {h : Hp} (i : Nat) {A : Option Addr} {n cap : Nat} {e : TypeId} {l : List Item} (hi : h[i]? = some (.row A n cap e 6 (iC l) (0, 0))) (hn : n = l.length) (hg : grow n A) : ItemsR (RH R h) (.slice A n cap) l := by
  subst hn
  exact SlR.own i hi (iC_length l) hg
end Go.Proofs.YtoddabjacjkjbaaDoor
