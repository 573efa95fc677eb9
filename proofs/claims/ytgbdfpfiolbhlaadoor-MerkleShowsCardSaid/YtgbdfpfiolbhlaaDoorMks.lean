/-
  Contracts: Show (package merkle and its reference); the law MerkleBlocks.
-/
import Derived.Test.YtgbdfpfiolbhlaaDoorMkr
namespace Go.Proofs.YtgbdfpfiolbhlaaDoor
open Go Go.RowKit
set_option linter.unusedVariables false

theorem blockLeaves_length {s : Nat} (hs : 1 ≤ s) : ∀ (n : Nat) (x : Str), x.length = n → (blockLeaves s x).length = countN n s := by
  intro n
  induction n using Nat.strongRecOn with
  | _ n ih =>
  intro x hn
  by_cases h : n = 0
  · rw [blockLeaves, dif_pos (.inl (by omega)), countN, if_pos h]; rfl
  · rw [blockLeaves_cons (by omega) hs, List.length_cons, ih (x.drop s).length (by rw [List.length_drop]; omega) (x.drop s) rfl, List.length_drop, hn, countN, countN, if_neg h]
    by_cases c : n ≤ s
    · rw [if_pos (by omega), Nat.div_eq_of_lt (by omega)]
    · rw [if_neg (by omega), Nat.div_eq_sub_div (by omega) (by omega : s ≤ n - 1)]
      have : n - s - 1 = n - 1 - s := by omega
      rw [this]
def blockOf (x : Str) (s b : Nat) : Str := (x.drop (b * s)).take (min s (x.length - b * s))
theorem blockOf_length {x : Str} {s b : Nat} : (blockOf x s b).length = min s (x.length - b * s) := by
  rw [blockOf, List.length_take, List.length_drop]; omega
/-- There is such a block. -/
def goodB (x : Str) (size block : Int) : Prop := 1 ≤ size ∧ 0 ≤ block ∧ block < (blockLeaves size.toNat x).length
theorem good_le {x : Str} {s b : Nat} (h : goodB x s b) : 1 ≤ s ∧ 1 ≤ x.length ∧ b * s ≤ x.length - 1 ∧ b < (blockLeaves s x).length ∧ b ≤ (x.length - 1) / s := by
  obtain ⟨h1, _, h3⟩ := h
  rw [Int.toNat_natCast] at h3
  have h4 := h3
  rw [blockLeaves_length (by omega) x.length x rfl, countN] at h4
  split at h4
  · omega
  · exact ⟨by omega, by omega, block_le (by omega) (by omega), by omega, by omega⟩
/-- What Show answers. -/
def ShowPost (x : Str) (size block : Int) (v : Value) (h : Hp) : Prop :=
  (¬ goodB x size block ∧ v = .tuple ⟨[.slice .none 0 0, .slice .none 0 0, .int .i64 1]⟩ ∧ h = []) ∨
  (goodB x size block ∧ ∃ A1 k1 c1 bs A2 k2 c2 p, h = [.row A2 k2 c2 9 1 (SV p) (0, 0), .row A1 k1 c1 5 1 (BV bs) (0, 0)] ∧ grow k2 A2 ∧ grow k1 A1 ∧ k2 = p.length ∧ k1 = bs.length ∧
    v = .tuple ⟨[.slice A1 k1 c1, .slice A2 k2 c2, .int .i64 0]⟩ ∧ bs = blockOf x size.toNat block.toNat ∧ p = pathOf (blockLeaves size.toNat x) block.toNat)

set_option maxRecDepth 100000 in
theorem Show_ok (R : Rd) (hG : ShaG R) (x : Str) (A : Option Addr) (cap : Nat) (size block : Int) (hsz : size ≤ 9223372036854775807) (hx : x.length ≤ 1048576) (hcap : x.length ≤ cap) (hs : BsR R (.slice A x.length cap) x) :
    Fn Tryd.prog 41 [.slice A x.length cap, .int .i64 size, .int .i64 block] [] R (fun v h => ShowPost x size block v h) := by
  have hML := maxLen_eq
  refine fn_of_vc mixed tabOk Tryd.func41 rfl (by kernel_rfl) (Nat.le_of_ble_eq_true rfl) ?_
  refine ⟨[], _, Blocks_ok _ (hG.rh _) x A cap size hsz hx hcap (hs.rh _), ?_⟩
  rintro _ _ ⟨B, k, capB, L, rfl, hg, hk, hkc, hc⟩
  rcases hc with ⟨c, rfl, hL⟩ | ⟨c, rfl, hL⟩
  · repeat (first | (refine ⟨fun h => ?_, fun h => ?_⟩; rotate_left 1; (focus (exfalso; (first | (with_reducible (cases h; done)) | (revert h; simp; done) | (revert h; simp; omega) | (revert h; simp [*]; done)))); clear h) | (refine ⟨fun h => ?_, fun h => ?_⟩; (focus (exfalso; (first | (with_reducible (cases h; done)) | (revert h; simp; done) | (revert h; simp; omega) | (revert h; simp [*]; done)))); clear h))
    exact ⟨_, Ent.nil _, .inl ⟨fun h => by have := h.1; omega, rfl, rfl⟩⟩
  have hsm : Small L := by rw [hL]; exact blockLeaves_small hx
  repeat (first | (refine ⟨fun h => ?_, fun h => ?_⟩; rotate_left 1; (focus (exfalso; (first | (with_reducible (cases h; done)) | (revert h; simp; done) | (revert h; simp; omega) | (revert h; simp [*]; done)))); clear h) | (refine ⟨fun h => ?_, fun h => ?_⟩; (focus (exfalso; (first | (with_reducible (cases h; done)) | (revert h; simp; done) | (revert h; simp; omega) | (revert h; simp [*]; done)))); clear h))
  refine ⟨[], _, Path_okc _ (hG.rh _) L block _ hsm (Ss.own 0 rfl hk hg hkc), ?_⟩
  rintro _ _ ⟨A2, k2, c2, xs2, rfl, hg2, _, hc2⟩
  rcases hc2 with ⟨hn, rfl, _, _⟩ | ⟨h0, h1, rfl, hk2, hxs⟩
  · repeat (first | (refine ⟨fun h => ?_, fun h => ?_⟩; rotate_left 1; (focus (exfalso; (first | (with_reducible (cases h; done)) | (revert h; simp; done) | (revert h; simp; omega) | (revert h; simp [*]; done)))); clear h) | (refine ⟨fun h => ?_, fun h => ?_⟩; (focus (exfalso; (first | (with_reducible (cases h; done)) | (revert h; simp; done) | (revert h; simp; omega) | (revert h; simp [*]; done)))); clear h))
    exact ⟨_, Ent.nil _, .inl ⟨fun h => hn ⟨h.2.1, by rw [hL]; exact h.2.2⟩, rfl, rfl⟩⟩
  · have hgood : goodB x size block := ⟨c, h0, by rw [← hL]; exact h1⟩
    obtain ⟨s, rfl⟩ := Int.eq_ofNat_of_zero_le (show 0 ≤ size by omega)
    obtain ⟨b, rfl⟩ := Int.eq_ofNat_of_zero_le (show 0 ≤ block by omega)
    obtain ⟨g1, g2, g3, g4, g5⟩ := good_le hgood
    repeat (first | (refine ⟨fun h => ?_, fun h => ?_⟩; rotate_left 1; (focus (exfalso; (first | (with_reducible (cases h; done)) | (revert h; simp; done) | (revert h; simp; omega) | (revert h; simp [*]; done)))); clear h) | (refine ⟨fun h => ?_, fun h => ?_⟩; (focus (exfalso; (first | (with_reducible (cases h; done)) | (revert h; simp; done) | (revert h; simp; omega) | (revert h; simp [*]; done)))); clear h))
    intro z hz
    obtain rfl := mul_nat (by omega) hz
    clear hz
    refine ⟨rfl, fun g => ?_⟩
    refine ⟨[], _, extent_ok _ x.length s b (by omega) (by omega) (by omega), ?_⟩
    rintro _ _ ⟨rfl, rfl⟩
    (intro z hz; obtain rfl : z = ((b * s + min s (x.length - b * s) : Nat) : Int) := (by first | (rw [IntKind.wrap_i64] at hz; omega) | (rw [IntKind.wrap_u64] at hz; omega) | omega); clear hz)
    have hb : BsR R (.slice (sliceBase A cap (b * s) 1) (b * s + min s (x.length - b * s) - b * s) (cap - b * s)) (blockOf x s b) := by
      have := hs.sub (l := b * s) (h := b * s + min s (x.length - b * s)) (by omega) (by omega) hcap
      have e : (x.drop (b * s)).take (b * s + min s (x.length - b * s) - b * s) = blockOf x s b := by rw [Nat.add_sub_cancel_left]; rfl
      rwa [e] at this
    have hbl := blockOf_length (x := x) (s := s) (b := b)
    refine ⟨b * s, b * s + min s (x.length - b * s), rfl, rfl, by omega, by omega, ?_⟩
    refine ⟨BV (blockOf x s b), by show _ = (b * s + min s (x.length - b * s) - b * s) * 1; rw [BV_length, hbl]; omega, (hb.rh _).src, BV_one _, by show (_ + _) * 1 ≤ _; omega, by omega, .inr ⟨2, rfl, rfl, rfl, rfl, rfl, rfl, fun A1 c1 hg1 => ?_⟩⟩
    exact ⟨_, Ent.dropr [_] [_, _], .inr ⟨hgood, A1, _, c1, blockOf x s b, A2, _, c2, pathOf L b, by rw [hxs]; rfl, hg2, hg1, hk2, by rw [hbl]; omega, rfl, rfl, by rw [hL]; rfl⟩⟩

set_option maxRecDepth 100000 in
theorem refShow_ok (R : Rd) (x : Str) (A : Option Addr) (cap : Nat) (size block : Int) (hsz : size ≤ 9223372036854775807) (hx : x.length ≤ 1048576) (hcap : x.length ≤ cap) (hs : BsR R (.slice A x.length cap) x) :
    Fn Tryd.prog 42 [.slice A x.length cap, .int .i64 size, .int .i64 block] [] R (fun v h => ShowPost x size block v h) := by
  have hML := maxLen_eq
  refine fn_of_vc mixed tabOk Tryd.func42 rfl (by kernel_rfl) (Nat.le_of_ble_eq_true rfl) ?_
  refine ⟨[], _, refBlocks_ok _ x A cap size hsz hx hcap (hs.rh _), ?_⟩
  rintro _ _ ⟨B, k, capB, L, rfl, hg, hk, hkc, hc⟩
  rcases hc with ⟨c, rfl, hL⟩ | ⟨c, rfl, hL⟩
  · repeat (first | (refine ⟨fun h => ?_, fun h => ?_⟩; rotate_left 1; (focus (exfalso; (first | (with_reducible (cases h; done)) | (revert h; simp; done) | (revert h; simp; omega) | (revert h; simp [*]; done)))); clear h) | (refine ⟨fun h => ?_, fun h => ?_⟩; (focus (exfalso; (first | (with_reducible (cases h; done)) | (revert h; simp; done) | (revert h; simp; omega) | (revert h; simp [*]; done)))); clear h))
    exact ⟨_, Ent.nil _, .inl ⟨fun h => by have := h.1; omega, rfl, rfl⟩⟩
  have hsm : Small L := by rw [hL]; exact blockLeaves_small hx
  repeat (first | (refine ⟨fun h => ?_, fun h => ?_⟩; rotate_left 1; (focus (exfalso; (first | (with_reducible (cases h; done)) | (revert h; simp; done) | (revert h; simp; omega) | (revert h; simp [*]; done)))); clear h) | (refine ⟨fun h => ?_, fun h => ?_⟩; (focus (exfalso; (first | (with_reducible (cases h; done)) | (revert h; simp; done) | (revert h; simp; omega) | (revert h; simp [*]; done)))); clear h))
  refine ⟨[], _, refPath_ok _ L block _ hsm (Ss.own 0 rfl hk hg hkc), ?_⟩
  rintro _ _ ⟨A2, k2, c2, xs2, rfl, hg2, hc2⟩
  rcases hc2 with ⟨hn, rfl, _, _⟩ | ⟨h0, h1, rfl, hk2, hxs⟩
  · repeat (first | (refine ⟨fun h => ?_, fun h => ?_⟩; rotate_left 1; (focus (exfalso; (first | (with_reducible (cases h; done)) | (revert h; simp; done) | (revert h; simp; omega) | (revert h; simp [*]; done)))); clear h) | (refine ⟨fun h => ?_, fun h => ?_⟩; (focus (exfalso; (first | (with_reducible (cases h; done)) | (revert h; simp; done) | (revert h; simp; omega) | (revert h; simp [*]; done)))); clear h))
    exact ⟨_, Ent.nil _, .inl ⟨fun h => hn ⟨h.2.1, by rw [hL]; exact h.2.2⟩, rfl, rfl⟩⟩
  · have hgood : goodB x size block := ⟨c, h0, by rw [← hL]; exact h1⟩
    obtain ⟨s, rfl⟩ := Int.eq_ofNat_of_zero_le (show 0 ≤ size by omega)
    obtain ⟨b, rfl⟩ := Int.eq_ofNat_of_zero_le (show 0 ≤ block by omega)
    obtain ⟨g1, g2, g3, g4, g5⟩ := good_le hgood
    repeat (first | (refine ⟨fun h => ?_, fun h => ?_⟩; rotate_left 1; (focus (exfalso; (first | (with_reducible (cases h; done)) | (revert h; simp; done) | (revert h; simp; omega) | (revert h; simp [*]; done)))); clear h) | (refine ⟨fun h => ?_, fun h => ?_⟩; (focus (exfalso; (first | (with_reducible (cases h; done)) | (revert h; simp; done) | (revert h; simp; omega) | (revert h; simp [*]; done)))); clear h))
    intro z hz
    obtain rfl := mul_nat (by omega) hz
    clear hz
    refine ⟨rfl, fun g => ?_⟩
    (intro z hz; obtain rfl : z = ((x.length - b * s : Nat) : Int) := (by first | (rw [IntKind.wrap_i64] at hz; omega) | (rw [IntKind.wrap_u64] at hz; omega) | omega); clear hz)
    (intro z hz; obtain rfl : z = ((min s (x.length - b * s) : Nat) : Int) := (by first | (rw [IntKind.wrap_i64] at hz; omega) | (rw [IntKind.wrap_u64] at hz; omega) | omega); clear hz)
    (intro z hz; obtain rfl : z = ((b * s + min s (x.length - b * s) : Nat) : Int) := (by first | (rw [IntKind.wrap_i64] at hz; omega) | (rw [IntKind.wrap_u64] at hz; omega) | omega); clear hz)
    have hb : BsR R (.slice (sliceBase A cap (b * s) 1) (b * s + min s (x.length - b * s) - b * s) (cap - b * s)) (blockOf x s b) := by
      have := hs.sub (l := b * s) (h := b * s + min s (x.length - b * s)) (by omega) (by omega) hcap
      have e : (x.drop (b * s)).take (b * s + min s (x.length - b * s) - b * s) = blockOf x s b := by rw [Nat.add_sub_cancel_left]; rfl
      rwa [e] at this
    have hbl := blockOf_length (x := x) (s := s) (b := b)
    refine ⟨b * s, b * s + min s (x.length - b * s), rfl, rfl, by omega, by omega, ?_⟩
    refine ⟨BV (blockOf x s b), by show _ = (b * s + min s (x.length - b * s) - b * s) * 1; rw [BV_length, hbl]; omega, (hb.rh _).src, BV_one _, by show (_ + _) * 1 ≤ _; omega, by omega, .inr ⟨2, rfl, rfl, rfl, rfl, rfl, rfl, fun A1 c1 hg1 => ?_⟩⟩
    exact ⟨_, Ent.dropr [_] [_, _], .inr ⟨hgood, A1, _, c1, blockOf x s b, A2, _, c2, pathOf L b, by rw [hxs]; rfl, hg2, hg1, hk2, by rw [hbl]; omega, rfl, rfl, by rw [hL]; rfl⟩⟩

theorem SsR.nil (R : Rd) : SsR R (.slice none 0 0) [] := ⟨rfl, none, 0, rfl, fun j u h => by simp [SV] at h⟩
theorem Int.eql_self (z : Int) : decide (z = z) = true := decide_eq_true rfl
theorem Str.eql_self (z : Str) : decide (z = z) = true := decide_eq_true rfl
theorem quo20 {n : Nat} {z : Int} (hn : n ≤ 1000000) (hz : z = IntKind.i64.wrap ((n : Int).tdiv 20)) : z = ((n / 20 : Nat) : Int) := quo_nat (b := 20) rfl (by omega) hz

set_option maxRecDepth 100000 in
set_option maxHeartbeats 2000000 in
theorem MerkleBlocks_law (R : Rd) (hG : ShaG R) (v0 v1 v2 : Value) (s0 : SeenV R (.sl 1 (.int .u8)) v0) (s1 : SeenV R (.int .i64) v1) (s2 : SeenV R (.int .i64) v2) :
    Fn Tryd.prog 12 [v0, v1, v2] [] R (fun v _ => v = .bool true) := by
  obtain ⟨x, A, cap, rfl, hx, hcap, hs⟩ := s0.bytesCap
  obtain ⟨size, rfl, hsz0, hsz⟩ := s1.i64
  obtain ⟨block, rfl, hb0, hb1⟩ := s2.i64
  have hML := maxLen_eq
  refine fn_of_vc mixed tabOk Tryd.func12 rfl (by kernel_rfl) (Nat.le_of_ble_eq_true rfl) ?_
  refine ⟨[], _, awake_ok _ (hG.rh _), ?_⟩
  rintro _ _ ⟨rfl, rfl⟩
  by_cases c1 : (300 : Int) < x.length
  · repeat (first | (refine ⟨fun h => ?_, fun h => ?_⟩; rotate_left 1; (focus (exfalso; (first | (with_reducible (cases h; done)) | (revert h; simp; done) | (revert h; simp; omega) | (revert h; simp [*]; done)))); clear h) | (refine ⟨fun h => ?_, fun h => ?_⟩; (focus (exfalso; (first | (with_reducible (cases h; done)) | (revert h; simp; done) | (revert h; simp; omega) | (revert h; simp [*]; done)))); clear h))
    refine ⟨[], _, awake_ok _ (hG.rh _), ?_⟩
    rintro _ _ ⟨rfl, rfl⟩
    exact ⟨_, Ent.refl _, rfl⟩
  have key : Fn Tryd.prog 16 [] [] R (fun v h => v = .bool true ∧ h = []) := awake_ok R hG
  by_cases c2 : 0 < size
  · obtain ⟨s, rfl⟩ := Int.eq_ofNat_of_zero_le (show 0 ≤ size by omega)
    repeat (first | (refine ⟨fun h => ?_, fun h => ?_⟩; rotate_left 1; (focus (exfalso; (first | (with_reducible (cases h; done)) | (revert h; simp; done) | (revert h; simp; omega) | (revert h; simp [*]; done)))); clear h) | (refine ⟨fun h => ?_, fun h => ?_⟩; (focus (exfalso; (first | (with_reducible (cases h; done)) | (revert h; simp; done) | (revert h; simp; omega) | (revert h; simp [*]; done)))); clear h))
    refine ⟨by decide, ?_⟩
    intro z hz
    obtain rfl := quo20 (by omega) hz
    clear hz
    by_cases c3 : (s : Int) ≤ ((x.length / 20 : Nat) : Int)
    · repeat (first | (refine ⟨fun h => ?_, fun h => ?_⟩; rotate_left 1; (focus (exfalso; (first | (with_reducible (cases h; done)) | (revert h; simp; done) | (revert h; simp; omega) | (revert h; simp [*]; done)))); clear h) | (refine ⟨fun h => ?_, fun h => ?_⟩; (focus (exfalso; (first | (with_reducible (cases h; done)) | (revert h; simp; done) | (revert h; simp; omega) | (revert h; simp [*]; done)))); clear h))
      refine ⟨[], _, awake_ok _ (hG.rh _), ?_⟩
      rintro _ _ ⟨rfl, rfl⟩
      exact ⟨_, Ent.refl _, rfl⟩
    · repeat (first | (refine ⟨fun h => ?_, fun h => ?_⟩; rotate_left 1; (focus (exfalso; (first | (with_reducible (cases h; done)) | (revert h; simp; done) | (revert h; simp; omega) | (revert h; simp [*]; done)))); clear h) | (refine ⟨fun h => ?_, fun h => ?_⟩; (focus (exfalso; (first | (with_reducible (cases h; done)) | (revert h; simp; done) | (revert h; simp; omega) | (revert h; simp [*]; done)))); clear h))
      refine ⟨[], _, Blocks_ok _ (hG.rh _) x A cap s hsz (by omega) hcap (hs.rh _), ?_⟩
      rintro _ _ ⟨B1, k1, cb1, L1, rfl, hg1, hk1, hkc1, hc1⟩
      rcases hc1 with ⟨c, _⟩ | ⟨_, rfl, hL1⟩
      · omega
      refine ⟨[], _, refBlocks_ok _ x A cap s hsz (by omega) hcap (hs.rh _), ?_⟩
      rintro _ _ ⟨B2, k2, cb2, L2, rfl, hg2, hk2, hkc2, hc2⟩
      rcases hc2 with ⟨c, _⟩ | ⟨_, rfl, hL2⟩
      · omega
      obtain rfl : L1 = L2 := hL1.trans hL2.symm
      have hl1 : L1.length ≤ 300 := by rw [hL1]; have := blockLeaves_le (s : Int).toNat _ x rfl; omega
      refine ⟨[], _, Of_ok _ (hG.rh _) x A cap s hsz (by omega) hcap (hs.rh _), ?_⟩
      rintro _ _ ⟨rfl, rfl⟩
      refine ⟨[], _, refOf_ok _ x A cap s hsz (by omega) hcap (hs.rh _), ?_⟩
      rintro _ _ ⟨rfl, rfl⟩
      generalize ofV x s = o
      refine ⟨[], _, Show_ok _ (hG.rh _) x A cap s block hsz (by omega) hcap (hs.rh _), ?_⟩
      rintro _ _ hp1
      rcases hp1 with ⟨ng, rfl, rfl⟩ | ⟨gd, A1, kb, c1', bs, A2, kp, c2', p, rfl, hgp, hgb, hkp, hkb, rfl, hbs, hpp⟩
      · refine ⟨[], _, refShow_ok _ x A cap s block hsz (by omega) hcap (hs.rh _), ?_⟩
        rintro _ _ hp2
        rcases hp2 with ⟨_, rfl, rfl⟩ | ⟨gd, _⟩
        case inr => exact absurd gd ng
        repeat (first | (refine ⟨fun h => ?_, fun h => ?_⟩; rotate_left 1; (focus (exfalso; (first | (with_reducible (cases h; done)) | (revert h; simp; done) | (revert h; simp; omega) | (revert h; simp [*]; done)))); clear h) | (refine ⟨fun h => ?_, fun h => ?_⟩; (focus (exfalso; (first | (with_reducible (cases h; done)) | (revert h; simp; done) | (revert h; simp; omega) | (revert h; simp [*]; done)))); clear h))
        refine ⟨[], _, same_ok _ L1 L1 _ _ (by omega) (SsR.ownL _ 0 rfl hk1 hg1) (SsR.ownL _ 1 rfl hk2 hg2), ?_⟩
        rintro _ _ ⟨rfl, rfl⟩
        rw [decide_eq_true (rfl : L1 = L1)]
        repeat (first | (refine ⟨fun h => ?_, fun h => ?_⟩; rotate_left 1; (focus (exfalso; (first | (with_reducible (cases h; done)) | (revert h; simp; done) | (revert h; simp; omega) | (revert h; simp [*]; done)))); clear h) | (refine ⟨fun h => ?_, fun h => ?_⟩; (focus (exfalso; (first | (with_reducible (cases h; done)) | (revert h; simp; done) | (revert h; simp; omega) | (revert h; simp [*]; done)))); clear h))
        refine ⟨[], rfl, fun j b hj => (by cases hj), ?_⟩
        repeat (first | (refine ⟨fun h => ?_, fun h => ?_⟩; rotate_left 1; (focus (exfalso; (first | (with_reducible (cases h; done)) | (revert h; simp; done) | (revert h; simp; omega) | (revert h; simp [*]; done)))); clear h) | (refine ⟨fun h => ?_, fun h => ?_⟩; (focus (exfalso; (first | (with_reducible (cases h; done)) | (revert h; simp; done) | (revert h; simp; omega) | (revert h; simp [*]; done)))); clear h))
        refine ⟨[], rfl, fun j b hj => (by cases hj), ?_⟩
        repeat (first | (refine ⟨fun h => ?_, fun h => ?_⟩; rotate_left 1; (focus (exfalso; (first | (with_reducible (cases h; done)) | (revert h; simp; done) | (revert h; simp; omega) | (revert h; simp [*]; done)))); clear h) | (refine ⟨fun h => ?_, fun h => ?_⟩; (focus (exfalso; (first | (with_reducible (cases h; done)) | (revert h; simp; done) | (revert h; simp; omega) | (revert h; simp [*]; done)))); clear h))
        refine ⟨[], _, same_ok _ [] [] _ _ (by show 0 ≤ _; omega) (SsR.nil _) (SsR.nil _), ?_⟩
        rintro _ _ ⟨rfl, rfl⟩
        repeat (first | (refine ⟨fun h => ?_, fun h => ?_⟩; rotate_left 1; (focus (exfalso; (first | (with_reducible (cases h; done)) | (revert h; simp; done) | (revert h; simp; omega) | (revert h; simp [*]; done)))); clear h) | (refine ⟨fun h => ?_, fun h => ?_⟩; (focus (exfalso; (first | (with_reducible (cases h; done)) | (revert h; simp; done) | (revert h; simp; omega) | (revert h; simp [*]; done)))); clear h))
        exact ⟨_, Ent.nil _, rfl⟩
      · refine ⟨[], _, refShow_ok _ x A cap s block hsz (by omega) hcap (hs.rh _), ?_⟩
        rintro _ _ hp2
        rcases hp2 with ⟨ng, _⟩ | ⟨_, A1', kb', c1'', bs', A2', kp', c2'', p', rfl, hgp', hgb', hkp', hkb', rfl, hbs', hpp'⟩
        · exact absurd gd ng
        obtain rfl : bs = bs' := hbs.trans hbs'.symm
        obtain rfl : p = p' := hpp.trans hpp'.symm
        have hpl : p.length ≤ 1000000 := by rw [hpp, pathOf, List.length_reverse]; have := pathR_le _ (blockLeaves (s : Int).toNat x) block.toNat rfl; rw [← hL1] at this ⊢; omega
        clear hbs hbs' hpp hpp' hL1 hL2
        repeat (first | (refine ⟨fun h => ?_, fun h => ?_⟩; rotate_left 1; (focus (exfalso; (first | (with_reducible (cases h; done)) | (revert h; simp; done) | (revert h; simp; omega) | (revert h; simp [*]; done)))); clear h) | (refine ⟨fun h => ?_, fun h => ?_⟩; (focus (exfalso; (first | (with_reducible (cases h; done)) | (revert h; simp; done) | (revert h; simp; omega) | (revert h; simp [*]; done)))); clear h))
        refine ⟨[], _, same_ok _ L1 L1 _ _ (by omega) (SsR.ownL _ 0 rfl hk1 hg1) (SsR.ownL _ 1 rfl hk2 hg2), ?_⟩
        rintro _ _ ⟨rfl, rfl⟩
        rw [decide_eq_true (rfl : L1 = L1)]
        repeat (first | (refine ⟨fun h => ?_, fun h => ?_⟩; rotate_left 1; (focus (exfalso; (first | (with_reducible (cases h; done)) | (revert h; simp; done) | (revert h; simp; omega) | (revert h; simp [*]; done)))); clear h) | (refine ⟨fun h => ?_, fun h => ?_⟩; (focus (exfalso; (first | (with_reducible (cases h; done)) | (revert h; simp; done) | (revert h; simp; omega) | (revert h; simp [*]; done)))); clear h))
        refine ⟨bs, hkb.symm, fun j b hj => (BsR.own (bs := bs) 3 rfl hkb rfl hgb).at_ hj, ?_⟩
        repeat (first | (refine ⟨fun h => ?_, fun h => ?_⟩; rotate_left 1; (focus (exfalso; (first | (with_reducible (cases h; done)) | (revert h; simp; done) | (revert h; simp; omega) | (revert h; simp [*]; done)))); clear h) | (refine ⟨fun h => ?_, fun h => ?_⟩; (focus (exfalso; (first | (with_reducible (cases h; done)) | (revert h; simp; done) | (revert h; simp; omega) | (revert h; simp [*]; done)))); clear h))
        refine ⟨bs, hkb'.symm, fun j b hj => (BsR.own (bs := bs) 5 rfl hkb' rfl hgb').at_ hj, ?_⟩
        repeat (first | (refine ⟨fun h => ?_, fun h => ?_⟩; rotate_left 1; (focus (exfalso; (first | (with_reducible (cases h; done)) | (revert h; simp; done) | (revert h; simp; omega) | (revert h; simp [*]; done)))); clear h) | (refine ⟨fun h => ?_, fun h => ?_⟩; (focus (exfalso; (first | (with_reducible (cases h; done)) | (revert h; simp; done) | (revert h; simp; omega) | (revert h; simp [*]; done)))); clear h))
        refine ⟨[], _, same_ok _ p p _ _ (by omega) (SsR.ownL _ 2 rfl hkp hgp) (SsR.ownL _ 4 rfl hkp' hgp'), ?_⟩
        rintro _ _ ⟨rfl, rfl⟩
        rw [decide_eq_true (rfl : p = p)]
        repeat (first | (refine ⟨fun h => ?_, fun h => ?_⟩; rotate_left 1; (focus (exfalso; (first | (with_reducible (cases h; done)) | (revert h; simp; done) | (revert h; simp; omega) | (revert h; simp [*]; done)))); clear h) | (refine ⟨fun h => ?_, fun h => ?_⟩; (focus (exfalso; (first | (with_reducible (cases h; done)) | (revert h; simp; done) | (revert h; simp; omega) | (revert h; simp [*]; done)))); clear h))
        exact ⟨_, Ent.nil _, rfl⟩
  · repeat (first | (refine ⟨fun h => ?_, fun h => ?_⟩; rotate_left 1; (focus (exfalso; (first | (with_reducible (cases h; done)) | (revert h; simp; done) | (revert h; simp; omega) | (revert h; simp [*]; done)))); clear h) | (refine ⟨fun h => ?_, fun h => ?_⟩; (focus (exfalso; (first | (with_reducible (cases h; done)) | (revert h; simp; done) | (revert h; simp; omega) | (revert h; simp [*]; done)))); clear h))
    refine ⟨[], _, Blocks_ok _ (hG.rh _) x A cap size hsz (by omega) hcap (hs.rh _), ?_⟩
    rintro _ _ ⟨B1, k1, cb1, L1, rfl, hg1, hk1, hkc1, hc1⟩
    rcases hc1 with ⟨_, rfl, hL1⟩ | ⟨c, _⟩
    case inr => omega
    refine ⟨[], _, refBlocks_ok _ x A cap size hsz (by omega) hcap (hs.rh _), ?_⟩
    rintro _ _ ⟨B2, k2, cb2, L2, rfl, hg2, hk2, hkc2, hc2⟩
    rcases hc2 with ⟨_, rfl, hL2⟩ | ⟨c, _⟩
    case inr => omega
    obtain rfl : L1 = L2 := hL1.trans hL2.symm
    have hl1 : L1.length ≤ 300 := by rw [hL1]; show 0 ≤ _; omega
    refine ⟨[], _, Of_ok _ (hG.rh _) x A cap size hsz (by omega) hcap (hs.rh _), ?_⟩
    rintro _ _ ⟨rfl, rfl⟩
    refine ⟨[], _, refOf_ok _ x A cap size hsz (by omega) hcap (hs.rh _), ?_⟩
    rintro _ _ ⟨rfl, rfl⟩
    generalize ofV x size = o
    refine ⟨[], _, Show_ok _ (hG.rh _) x A cap size block hsz (by omega) hcap (hs.rh _), ?_⟩
    rintro _ _ hp1
    rcases hp1 with ⟨_, rfl, rfl⟩ | ⟨gd, _⟩
    case inr => have := gd.1; omega
    refine ⟨[], _, refShow_ok _ x A cap size block hsz (by omega) hcap (hs.rh _), ?_⟩
    rintro _ _ hp2
    rcases hp2 with ⟨_, rfl, rfl⟩ | ⟨gd, _⟩
    case inr => have := gd.1; omega
    repeat (first | (refine ⟨fun h => ?_, fun h => ?_⟩; rotate_left 1; (focus (exfalso; (first | (with_reducible (cases h; done)) | (revert h; simp; done) | (revert h; simp; omega) | (revert h; simp [*]; done)))); clear h) | (refine ⟨fun h => ?_, fun h => ?_⟩; (focus (exfalso; (first | (with_reducible (cases h; done)) | (revert h; simp; done) | (revert h; simp; omega) | (revert h; simp [*]; done)))); clear h))
    refine ⟨[], _, same_ok _ L1 L1 _ _ (by omega) (SsR.ownL _ 0 rfl hk1 hg1) (SsR.ownL _ 1 rfl hk2 hg2), ?_⟩
    rintro _ _ ⟨rfl, rfl⟩
    rw [decide_eq_true (rfl : L1 = L1)]
    repeat (first | (refine ⟨fun h => ?_, fun h => ?_⟩; rotate_left 1; (focus (exfalso; (first | (with_reducible (cases h; done)) | (revert h; simp; done) | (revert h; simp; omega) | (revert h; simp [*]; done)))); clear h) | (refine ⟨fun h => ?_, fun h => ?_⟩; (focus (exfalso; (first | (with_reducible (cases h; done)) | (revert h; simp; done) | (revert h; simp; omega) | (revert h; simp [*]; done)))); clear h))
    refine ⟨[], rfl, fun j b hj => (by cases hj), ?_⟩
    repeat (first | (refine ⟨fun h => ?_, fun h => ?_⟩; rotate_left 1; (focus (exfalso; (first | (with_reducible (cases h; done)) | (revert h; simp; done) | (revert h; simp; omega) | (revert h; simp [*]; done)))); clear h) | (refine ⟨fun h => ?_, fun h => ?_⟩; (focus (exfalso; (first | (with_reducible (cases h; done)) | (revert h; simp; done) | (revert h; simp; omega) | (revert h; simp [*]; done)))); clear h))
    refine ⟨[], rfl, fun j b hj => (by cases hj), ?_⟩
    repeat (first | (refine ⟨fun h => ?_, fun h => ?_⟩; rotate_left 1; (focus (exfalso; (first | (with_reducible (cases h; done)) | (revert h; simp; done) | (revert h; simp; omega) | (revert h; simp [*]; done)))); clear h) | (refine ⟨fun h => ?_, fun h => ?_⟩; (focus (exfalso; (first | (with_reducible (cases h; done)) | (revert h; simp; done) | (revert h; simp; omega) | (revert h; simp [*]; done)))); clear h))
    refine ⟨[], _, same_ok _ [] [] _ _ (by show 0 ≤ _; omega) (SsR.nil _) (SsR.nil _), ?_⟩
    rintro _ _ ⟨rfl, rfl⟩
    repeat (first | (refine ⟨fun h => ?_, fun h => ?_⟩; rotate_left 1; (focus (exfalso; (first | (with_reducible (cases h; done)) | (revert h; simp; done) | (revert h; simp; omega) | (revert h; simp [*]; done)))); clear h) | (refine ⟨fun h => ?_, fun h => ?_⟩; (focus (exfalso; (first | (with_reducible (cases h; done)) | (revert h; simp; done) | (revert h; simp; omega) | (revert h; simp [*]; done)))); clear h))
    exact ⟨_, Ent.nil _, rfl⟩

end Go.Proofs.YtgbdfpfiolbhlaaDoor
