/-
  Contracts: Blocks, Of (package merkle and its reference).
-/
import Derived.Test.YtgbdfpfiolbhlaaDoorMkm
namespace Go.Proofs.YtgbdfpfiolbhlaaDoor
open Go Go.RowKit
set_option linter.unusedVariables false

theorem take_min (y : Str) (s : Nat) : y.take (min s y.length) = y.take s := by
  by_cases h : s ≤ y.length
  · rw [Nat.min_eq_left h]
  · rw [Nat.min_eq_right (by omega), List.take_length, List.take_of_length_le (by omega)]
theorem drop_min (y : Str) (s : Nat) : y.drop (min s y.length) = y.drop s := by
  by_cases h : s ≤ y.length
  · rw [Nat.min_eq_left h]
  · rw [Nat.min_eq_right (by omega), List.drop_length, List.drop_of_length_le (by omega)]
theorem Leaf_okn (R : Rd) (hG : ShaG R) (x : List UInt8) (A : Option Addr) (n cap : Nat) (hn : n = x.length) (hx : x.length ≤ 1152921504606846000) (hcap : x.length ≤ cap) (hs : BsR R (.slice A n cap) x) :
    Fn Tryd.prog 17 [.slice A n cap] [] R (fun v h => v = .string ⟨⟨leafOf x⟩⟩ ∧ h = []) := by
  subst hn; exact Leaf_ok R hG x A cap hx hcap hs
theorem BsR.takeK {R : Rd} {A : Option Addr} {n cap : Nat} {b : List UInt8} (hb : BsR R (.slice A n cap) b) {k : Nat} (h2 : k ≤ b.length) (hc : b.length ≤ cap) : BsR R (.slice (sliceBase A cap 0 1) (k - 0) (cap - 0)) (b.take k) := hb.sub (Nat.zero_le _) h2 hc
theorem BsR.dropK {R : Rd} {A : Option Addr} {n cap : Nat} {b : List UInt8} (hb : BsR R (.slice A n cap) b) {k : Nat} (h2 : k ≤ b.length) (hc : b.length ≤ cap) : BsR R (.slice (sliceBase A cap k 1) (b.length - k) (cap - k)) (b.drop k) := by
  have := hb.sub h2 (Nat.le_refl _) hc
  rwa [List.take_of_length_le (by rw [List.length_drop]; exact Nat.le_refl _)] at this

/-- What Blocks answers. -/
def BlPost (x : Str) (size : Int) (v : Value) (h : Hp) : Prop :=
  ∃ A k cap L, h = [.row A k cap 9 1 (SV L) (0, 0)] ∧ grow k A ∧ k = L.length ∧
    ((size < 1 ∧ v = .tuple ⟨[.slice A k cap, .int .i64 1]⟩ ∧ L = []) ∨ (1 ≤ size ∧ v = .tuple ⟨[.slice A k cap, .int .i64 0]⟩ ∧ L = blockLeaves size.toNat x))
/-- With the slice's capacity. -/
def BlPostc (x : Str) (size : Int) (v : Value) (h : Hp) : Prop :=
  ∃ A k cap L, h = [.row A k cap 9 1 (SV L) (0, 0)] ∧ grow k A ∧ k = L.length ∧ k ≤ cap ∧
    ((size < 1 ∧ v = .tuple ⟨[.slice A k cap, .int .i64 1]⟩ ∧ L = []) ∨ (1 ≤ size ∧ v = .tuple ⟨[.slice A k cap, .int .i64 0]⟩ ∧ L = blockLeaves size.toNat x))
theorem BlPost.caps {x : Str} {size : Int} {v : Value} {h : Hp} {w : World} (p : BlPost x size v h) (o : Own h w) : BlPostc x size v h := by
  obtain ⟨A, k, cap, L, rfl, hg, hk, hc⟩ := p
  exact ⟨A, k, cap, L, rfl, hg, hk, (row_cap o 0 rfl).1, hc⟩
theorem blockLeaves_le (s : Nat) : ∀ (n : Nat) (x : Str), x.length = n → (blockLeaves s x).length ≤ n := by
  intro n
  induction n using Nat.strongRecOn with
  | _ n ih =>
  intro x hn
  by_cases h : x.length = 0 ∨ s = 0
  · rw [blockLeaves, dif_pos h]; exact Nat.zero_le _
  · rw [blockLeaves, dif_neg h, List.length_cons]
    have := ih (x.drop s).length (by rw [List.length_drop]; omega) (x.drop s) rfl
    rw [List.length_drop] at this
    omega
theorem blockLeaves_sums (s : Nat) : ∀ (n : Nat) (x : Str), x.length = n → sumsB (blockLeaves s x) = true := by
  intro n
  induction n using Nat.strongRecOn with
  | _ n ih =>
  intro x hn
  by_cases h : x.length = 0 ∨ s = 0
  · rw [blockLeaves, dif_pos h]; rfl
  · rw [blockLeaves, dif_neg h]
    have := ih (x.drop s).length (by rw [List.length_drop]; omega) (x.drop s) rfl
    rw [sumsB_iff] at this ⊢
    intro t ht
    rcases List.mem_cons.1 ht with rfl | ht
    · exact leafOf_length _
    · exact this t ht
theorem blockLeaves_small {s : Nat} {x : Str} (hx : x.length ≤ 1048576) : Small (blockLeaves s x) := ⟨by have := blockLeaves_le s _ x rfl; omega, fun t ht => by
  have := sumsB_iff.1 (blockLeaves_sums s _ x rfl) t ht
  omega⟩
def ofV (x : Str) (size : Int) : Str × Int := if size < 1 then ([], 1) else (rootOf (blockLeaves size.toNat x), 0)

set_option maxRecDepth 100000 in
theorem Blocks_ok0 (R : Rd) (hG : ShaG R) (x : Str) (A : Option Addr) (cap : Nat) (size : Int) (hsz : size ≤ 9223372036854775807) (hx : x.length ≤ 1048576) (hcap : x.length ≤ cap) (hs : BsR R (.slice A x.length cap) x) :
    Fn Tryd.prog 37 [.slice A x.length cap, .int .i64 size] [] R (fun v h => BlPost x size v h) := by
  have hML := maxLen_eq
  refine fn_of_vc mixed tabOk Tryd.func37 rfl (by kernel_rfl) (Nat.le_of_ble_eq_true rfl) ?_
  by_cases c1 : size < 1
  · repeat (first | (refine ⟨fun h => ?_, fun h => ?_⟩; rotate_left 1; (focus (exfalso; (first | (with_reducible (cases h; done)) | (revert h; simp; done) | (revert h; simp; omega) | (revert h; simp [*]; done)))); clear h) | (refine ⟨fun h => ?_, fun h => ?_⟩; (focus (exfalso; (first | (with_reducible (cases h; done)) | (revert h; simp; done) | (revert h; simp; omega) | (revert h; simp [*]; done)))); clear h))
    exact ⟨_, Ent.nilrow [] 9 1, .none, 0, 0, [], rfl, .inl rfl, rfl, .inl ⟨c1, rfl, rfl⟩⟩
  obtain ⟨s, rfl⟩ := Int.eq_ofNat_of_zero_le (show 0 ≤ size by omega)
  have hs1 : 1 ≤ s := by omega
  repeat (first | (refine ⟨fun h => ?_, fun h => ?_⟩; rotate_left 1; (focus (exfalso; (first | (with_reducible (cases h; done)) | (revert h; simp; done) | (revert h; simp; omega) | (revert h; simp [*]; done)))); clear h) | (refine ⟨fun h => ?_, fun h => ?_⟩; (focus (exfalso; (first | (with_reducible (cases h; done)) | (revert h; simp; done) | (revert h; simp; omega) | (revert h; simp [*]; done)))); clear h))
  refine ⟨[0, 6, 7, 13, 14, 15, 16, 17, 18, 19, 20, 21, 22, 23, 24, 25, 26, 27, 28, 29], [0, 6], Option Addr × Nat × Str × Option Addr × Nat × List Str, fun ⟨A0, cap0, y, B, capB, L⟩ => BsR R (.slice A0 y.length cap0) y ∧ y.length ≤ cap0 ∧ grow L.length B ∧ L ++ blockLeaves s y = blockLeaves s x ∧ y.length + L.length ≤ x.length,
    fun ⟨A0, cap0, y, B, capB, L⟩ => [.slice A0 y.length cap0, .slice B L.length capB], fun ⟨A0, cap0, y, B, capB, L⟩ => [.row B L.length capB 9 1 (SV L) (0, 0)], fun ⟨_, _, y, _, _, _⟩ => y.length,
    (A, cap, x, .none, 0, []), ⟨hs, hcap, .inl rfl, rfl, Nat.le_refl _⟩, ⟨rfl, rfl, trivial⟩, Ent.nilrow [] 9 1, ?_⟩
  rintro ⟨A0, cap0, y, B, capB, L⟩ ⟨hy, hyc, hg, hL, hyl⟩ js
  refine ⟨fun hb => ?_, fun hb => ?_⟩
  · replace hb := of_decide_eq_true hb
    have hy0 : 0 < y.length := by omega
    clear hb
    have hm1 : min s y.length ≤ y.length := Nat.min_le_right _ _
    have hm2 : 1 ≤ min s y.length := by omega
    (intro z hz; obtain rfl : z = ((min s y.length : Nat) : Int) := (by first | (rw [IntKind.wrap_i64] at hz; omega) | (rw [IntKind.wrap_u64] at hz; omega) | omega); clear hz)
    refine ⟨0, min s y.length, rfl, rfl, by omega, by omega, ?_⟩
    refine ⟨[], _, Leaf_okn _ (hG.rh _) (y.take (min s y.length)) _ _ _ (by rw [List.length_take]; omega) (by rw [List.length_take]; omega) (by rw [List.length_take]; omega) ((hy.takeK (by omega) hyc).rh _), ?_⟩
    rintro _ _ ⟨rfl, rfl⟩
    refine ⟨rfl, fun g3 => ?_⟩
    refine ⟨[.string ⟨⟨leafOf (y.take (min s y.length))⟩⟩], rfl, rdRow 1 rfl, rfl, by show (_ + _) * 16 ≤ _; omega, by omega, .inr ⟨0, rfl, rfl, rfl, rfl, rfl, rfl, fun B' capB' hg' => ?_⟩⟩
    refine ⟨min s y.length, y.length, rfl, rfl, by omega, by omega, ?_⟩
    refine ⟨rfl, (sliceBase A0 cap0 (min s y.length) 1, cap0 - min s y.length, y.drop (min s y.length), B', capB', L ++ [leafOf (y.take (min s y.length))]), ⟨?_, ?_, ?_, ?_, ?_⟩, ?_, ⟨?_, ?_, trivial⟩, ?_, rfl⟩
    rotate_right 3
    · show Value.slice _ (y.length - min s y.length) _ = Value.slice _ (y.drop (min s y.length)).length _
      rw [List.length_drop]; rfl
    · show Value.slice _ _ _ = Value.slice _ (L ++ [_]).length _
      rw [List.length_append]; rfl
    · show Ent [.row B' (L.length + 1) capB' _ 1 (SV L ++ [.string ⟨⟨leafOf (y.take (min s y.length))⟩⟩]) _, _] [.row B' (L ++ [leafOf (y.take (min s y.length))]).length capB' _ 1 (SV (L ++ [leafOf (y.take (min s y.length))])) _]
      rw [SV_snoc, List.length_append]
      exact Ent.drop [_] [_]
    · rw [List.length_drop]; exact hy.dropK hm1 hyc
    · rw [List.length_drop]; omega
    · rw [List.length_append]; exact hg'
    · rw [← hL, blockLeaves_cons hy0 hs1, List.append_assoc, take_min, drop_min]; rfl
    · rw [List.length_drop, List.length_append]; show _ + (_ + 1) ≤ _; omega
    · show (y.drop (min s y.length)).length < y.length
      rw [List.length_drop]; omega
  · replace hb := of_decide_eq_false hb
    have hy0 : y = [] := List.eq_nil_of_length_eq_zero (by omega)
    clear hb
    rw [hy0, blockLeaves_nil, List.append_nil] at hL
    exact ⟨_, Ent.refl _, B, _, capB, L, rfl, hg, rfl, .inr ⟨by omega, rfl, by rw [hL]; rfl⟩⟩
theorem Blocks_ok (R : Rd) (hG : ShaG R) (x : Str) (A : Option Addr) (cap : Nat) (size : Int) (hsz : size ≤ 9223372036854775807) (hx : x.length ≤ 1048576) (hcap : x.length ≤ cap) (hs : BsR R (.slice A x.length cap) x) :
    Fn Tryd.prog 37 [.slice A x.length cap, .int .i64 size] [] R (fun v h => BlPostc x size v h) :=
  Fn.post (Blocks_ok0 R hG x A cap size hsz hx hcap hs) fun _ _ _ p o => p.caps o

set_option maxRecDepth 100000 in
theorem Of_ok (R : Rd) (hG : ShaG R) (x : Str) (A : Option Addr) (cap : Nat) (size : Int) (hsz : size ≤ 9223372036854775807) (hx : x.length ≤ 1048576) (hcap : x.length ≤ cap) (hs : BsR R (.slice A x.length cap) x) :
    Fn Tryd.prog 39 [.slice A x.length cap, .int .i64 size] [] R (fun v h => v = .tuple ⟨[.string ⟨⟨(ofV x size).1⟩⟩, .int .i64 (ofV x size).2]⟩ ∧ h = []) := by
  refine fn_of_vc mixed tabOk Tryd.func39 rfl (by kernel_rfl) (Nat.le_of_ble_eq_true rfl) ?_
  refine ⟨[], _, Blocks_ok _ (hG.rh _) x A cap size hsz hx hcap (hs.rh _), ?_⟩
  rintro _ _ ⟨B, k, capB, L, rfl, hg, hk, hkc, hc⟩
  rcases hc with ⟨c, rfl, hL⟩ | ⟨c, rfl, hL⟩
  · repeat (first | (refine ⟨fun h => ?_, fun h => ?_⟩; rotate_left 1; (focus (exfalso; (first | (with_reducible (cases h; done)) | (revert h; simp; done) | (revert h; simp; omega) | (revert h; simp [*]; done)))); clear h) | (refine ⟨fun h => ?_, fun h => ?_⟩; (focus (exfalso; (first | (with_reducible (cases h; done)) | (revert h; simp; done) | (revert h; simp; omega) | (revert h; simp [*]; done)))); clear h))
    refine ⟨_, Ent.nil _, ?_, rfl⟩
    rw [ofV, if_pos c]; rfl
  · repeat (first | (refine ⟨fun h => ?_, fun h => ?_⟩; rotate_left 1; (focus (exfalso; (first | (with_reducible (cases h; done)) | (revert h; simp; done) | (revert h; simp; omega) | (revert h; simp [*]; done)))); clear h) | (refine ⟨fun h => ?_, fun h => ?_⟩; (focus (exfalso; (first | (with_reducible (cases h; done)) | (revert h; simp; done) | (revert h; simp; omega) | (revert h; simp [*]; done)))); clear h))
    have hsm : Small L := by rw [hL]; exact blockLeaves_small hx
    refine ⟨[], _, Root_ok _ (hG.rh _) _ L _ rfl hsm (Ss.own 0 rfl hk hg hkc), ?_⟩
    rintro _ _ ⟨rfl, rfl⟩
    refine ⟨_, Ent.nil _, ?_, rfl⟩
    rw [ofV, if_neg (by omega), ← hL]; rfl

set_option maxRecDepth 100000 in
theorem refBlocks_ok0 (R : Rd) (x : Str) (A : Option Addr) (cap : Nat) (size : Int) (hsz : size ≤ 9223372036854775807) (hx : x.length ≤ 1048576) (hcap : x.length ≤ cap) (hs : BsR R (.slice A x.length cap) x) :
    Fn Tryd.prog 38 [.slice A x.length cap, .int .i64 size] [] R (fun v h => BlPost x size v h) := by
  have hML := maxLen_eq
  refine fn_of_vc mixed tabOk Tryd.func38 rfl (by kernel_rfl) (Nat.le_of_ble_eq_true rfl) ?_
  by_cases c1 : size < 1
  · repeat (first | (refine ⟨fun h => ?_, fun h => ?_⟩; rotate_left 1; (focus (exfalso; (first | (with_reducible (cases h; done)) | (revert h; simp; done) | (revert h; simp; omega) | (revert h; simp [*]; done)))); clear h) | (refine ⟨fun h => ?_, fun h => ?_⟩; (focus (exfalso; (first | (with_reducible (cases h; done)) | (revert h; simp; done) | (revert h; simp; omega) | (revert h; simp [*]; done)))); clear h))
    exact ⟨_, Ent.nilrow [] 9 1, .none, 0, 0, [], rfl, .inl rfl, rfl, .inl ⟨c1, rfl, rfl⟩⟩
  obtain ⟨s, rfl⟩ := Int.eq_ofNat_of_zero_le (show 0 ≤ size by omega)
  have hs1 : 1 ≤ s := by omega
  repeat (first | (refine ⟨fun h => ?_, fun h => ?_⟩; rotate_left 1; (focus (exfalso; (first | (with_reducible (cases h; done)) | (revert h; simp; done) | (revert h; simp; omega) | (revert h; simp [*]; done)))); clear h) | (refine ⟨fun h => ?_, fun h => ?_⟩; (focus (exfalso; (first | (with_reducible (cases h; done)) | (revert h; simp; done) | (revert h; simp; omega) | (revert h; simp [*]; done)))); clear h))
  refine ⟨rfl, fun g => ?_⟩
  refine ⟨[0, 6, 7, 14, 15, 16, 17, 18, 19, 20, 21, 22, 23, 24, 25, 26, 27, 28, 29, 30], [0, 6], Option Addr × Nat × Str × Option Addr × Nat × List Str, fun ⟨A0, cap0, y, B, capB, L⟩ => BsR R (.slice A0 y.length cap0) y ∧ y.length ≤ cap0 ∧ grow L.length B ∧ L ++ blockLeaves s y = blockLeaves s x ∧ y.length + L.length ≤ x.length,
    fun ⟨A0, cap0, y, B, capB, L⟩ => [.slice A0 y.length cap0, .slice B L.length capB], fun ⟨A0, cap0, y, B, capB, L⟩ => [.row B L.length capB 9 1 (SV L) (0, 0)], fun ⟨_, _, y, _, _, _⟩ => y.length,
    (A, cap, x, some ⟨g, 0, .none⟩, 0, []), ⟨hs, hcap, .inl rfl, rfl, Nat.le_refl _⟩, ⟨rfl, rfl, trivial⟩, Ent.refl _, ?_⟩
  rintro ⟨A0, cap0, y, B, capB, L⟩ ⟨hy, hyc, hg, hL, hyl⟩ js
  refine ⟨fun hb => ?_, fun hb => ?_⟩
  · replace hb := of_decide_eq_true hb
    have hy0 : 0 < y.length := by omega
    clear hb
    have hm1 : min s y.length ≤ y.length := Nat.min_le_right _ _
    have hm2 : 1 ≤ min s y.length := by omega
    (intro z hz; obtain rfl : z = ((min s y.length : Nat) : Int) := (by first | (rw [IntKind.wrap_i64] at hz; omega) | (rw [IntKind.wrap_u64] at hz; omega) | omega); clear hz)
    refine ⟨0, min s y.length, rfl, rfl, by omega, by omega, ?_⟩
    refine ⟨[], _, refLeaf_ok _ (y.take (min s y.length)) _ (by rw [List.length_take]; omega) ((hy.takeK (by omega) hyc).rh _), ?_⟩
    rintro _ _ ⟨rfl, rfl⟩
    refine ⟨rfl, fun g3 => ?_⟩
    refine ⟨[.string ⟨⟨leafOf (y.take (min s y.length))⟩⟩], rfl, rdRow 1 rfl, rfl, by show (_ + _) * 16 ≤ _; omega, by omega, .inr ⟨0, rfl, rfl, rfl, rfl, rfl, rfl, fun B' capB' hg' => ?_⟩⟩
    refine ⟨min s y.length, y.length, rfl, rfl, by omega, by omega, ?_⟩
    refine ⟨rfl, (sliceBase A0 cap0 (min s y.length) 1, cap0 - min s y.length, y.drop (min s y.length), B', capB', L ++ [leafOf (y.take (min s y.length))]), ⟨?_, ?_, ?_, ?_, ?_⟩, ?_, ⟨?_, ?_, trivial⟩, ?_, rfl⟩
    rotate_right 3
    · show Value.slice _ (y.length - min s y.length) _ = Value.slice _ (y.drop (min s y.length)).length _
      rw [List.length_drop]; rfl
    · show Value.slice _ _ _ = Value.slice _ (L ++ [_]).length _
      rw [List.length_append]; rfl
    · show Ent [.row B' (L.length + 1) capB' _ 1 (SV L ++ [.string ⟨⟨leafOf (y.take (min s y.length))⟩⟩]) _, _] [.row B' (L ++ [leafOf (y.take (min s y.length))]).length capB' _ 1 (SV (L ++ [leafOf (y.take (min s y.length))])) _]
      rw [SV_snoc, List.length_append]
      exact Ent.drop [_] [_]
    · rw [List.length_drop]; exact hy.dropK hm1 hyc
    · rw [List.length_drop]; omega
    · rw [List.length_append]; exact hg'
    · rw [← hL, blockLeaves_cons hy0 hs1, List.append_assoc, take_min, drop_min]; rfl
    · rw [List.length_drop, List.length_append]; show _ + (_ + 1) ≤ _; omega
    · show (y.drop (min s y.length)).length < y.length
      rw [List.length_drop]; omega
  · replace hb := of_decide_eq_false hb
    have hy0 : y = [] := List.eq_nil_of_length_eq_zero (by omega)
    clear hb
    rw [hy0, blockLeaves_nil, List.append_nil] at hL
    exact ⟨_, Ent.refl _, B, _, capB, L, rfl, hg, rfl, .inr ⟨by omega, rfl, by rw [hL]; rfl⟩⟩
theorem refBlocks_ok (R : Rd) (x : Str) (A : Option Addr) (cap : Nat) (size : Int) (hsz : size ≤ 9223372036854775807) (hx : x.length ≤ 1048576) (hcap : x.length ≤ cap) (hs : BsR R (.slice A x.length cap) x) :
    Fn Tryd.prog 38 [.slice A x.length cap, .int .i64 size] [] R (fun v h => BlPostc x size v h) :=
  Fn.post (refBlocks_ok0 R x A cap size hsz hx hcap hs) fun _ _ _ p o => p.caps o

set_option maxRecDepth 100000 in
theorem refOf_ok (R : Rd) (x : Str) (A : Option Addr) (cap : Nat) (size : Int) (hsz : size ≤ 9223372036854775807) (hx : x.length ≤ 1048576) (hcap : x.length ≤ cap) (hs : BsR R (.slice A x.length cap) x) :
    Fn Tryd.prog 40 [.slice A x.length cap, .int .i64 size] [] R (fun v h => v = .tuple ⟨[.string ⟨⟨(ofV x size).1⟩⟩, .int .i64 (ofV x size).2]⟩ ∧ h = []) := by
  refine fn_of_vc mixed tabOk Tryd.func40 rfl (by kernel_rfl) (Nat.le_of_ble_eq_true rfl) ?_
  refine ⟨[], _, refBlocks_ok _ x A cap size hsz hx hcap (hs.rh _), ?_⟩
  rintro _ _ ⟨B, k, capB, L, rfl, hg, hk, hkc, hc⟩
  rcases hc with ⟨c, rfl, hL⟩ | ⟨c, rfl, hL⟩
  · repeat (first | (refine ⟨fun h => ?_, fun h => ?_⟩; rotate_left 1; (focus (exfalso; (first | (with_reducible (cases h; done)) | (revert h; simp; done) | (revert h; simp; omega) | (revert h; simp [*]; done)))); clear h) | (refine ⟨fun h => ?_, fun h => ?_⟩; (focus (exfalso; (first | (with_reducible (cases h; done)) | (revert h; simp; done) | (revert h; simp; omega) | (revert h; simp [*]; done)))); clear h))
    refine ⟨_, Ent.nil _, ?_, rfl⟩
    rw [ofV, if_pos c]; rfl
  · repeat (first | (refine ⟨fun h => ?_, fun h => ?_⟩; rotate_left 1; (focus (exfalso; (first | (with_reducible (cases h; done)) | (revert h; simp; done) | (revert h; simp; omega) | (revert h; simp [*]; done)))); clear h) | (refine ⟨fun h => ?_, fun h => ?_⟩; (focus (exfalso; (first | (with_reducible (cases h; done)) | (revert h; simp; done) | (revert h; simp; omega) | (revert h; simp [*]; done)))); clear h))
    have hsm : Small L := by rw [hL]; exact blockLeaves_small hx
    refine ⟨[], _, refRoot_ok _ _ L _ rfl hsm (Ss.own 0 rfl hk hg hkc), ?_⟩
    rintro _ _ ⟨rfl, rfl⟩
    refine ⟨_, Ent.nil _, ?_, rfl⟩
    rw [ofV, if_neg (by omega), ← hL]; rfl

end Go.Proofs.YtgbdfpfiolbhlaaDoor
