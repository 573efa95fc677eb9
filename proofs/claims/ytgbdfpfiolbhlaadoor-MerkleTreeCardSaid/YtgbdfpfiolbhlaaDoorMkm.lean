/-
  The law MerkleProves.
-/
import Derived.Test.YtgbdfpfiolbhlaaDoorMki
import Derived.Test.YtgbdfpfiolbhlaaDoorMkj
namespace Go.Proofs.YtgbdfpfiolbhlaaDoor
open Go Go.RowKit
set_option linter.unusedVariables false

/-- As fn_row, and what the callee leaves knows it too. -/
theorem fn_rowc {P : Program} {f : FuncId} {args : List Value} {h : Hp} {R : Rd} {Post : Value → Hp → Prop} (i : Nat) {A : Option Addr} {n cap : Nat} {e : TypeId} {sz : Nat} {xs : List Value} {fz : Nat × Nat} (hi : h[i]? = some (.row A n cap e sz xs fz)) (hc : Callable P f)
    (hF : n ≤ cap → cap ≤ maxLen → Fn P f args h R Post) : Fn P f args h R (fun v h' => n ≤ cap ∧ Post v h') :=
  fn_row i hi hc fun h1 h2 => Fn.post (hF h1 h2) fun _ _ _ p _ => ⟨h1, p⟩
theorem Ss.own {R : Rd} {h : Hp} (i : Nat) {A : Option Addr} {n cap : Nat} {e : TypeId} {L : List Str} {fz : Nat × Nat} (hi : h[i]? = some (.row A n cap e 1 (SV L) fz)) (hl : n = L.length) (hg : grow n A) (hc : n ≤ cap) : Ss (RH R h) (.slice A n cap) L := by
  subst hl
  exact ⟨A, cap, rfl, hc, SlR.own i hi (by rw [SV_length, Nat.mul_one]) hg⟩

theorem SsR.ownL {R : Rd} (h : Hp) (i : Nat) {A : Option Addr} {n cap : Nat} {e : TypeId} {L : List Str} {fz : Nat × Nat} (hi : h[i]? = some (.row A n cap e 1 (SV L) fz)) (hl : n = L.length) (hg : grow n A) : SsR (RH R h) (.slice A n cap) L := by
  subst hl
  exact SlR.own i hi (by rw [SV_length, Nat.mul_one]) hg

theorem blen_half {n : Nat} (h : 0 < n) : blen n = blen (n / 2) + 1 := by
  by_cases h1 : n = 1
  · subst h1; decide +kernel
  · have := blen_shift (m := n) (k := 1) (by omega)
    rw [Nat.pow_one] at this
    omega

def leavesOf (c : List Str) : List Str := c.map leafOf
theorem leavesOf_length (c : List Str) : (leavesOf c).length = c.length := by simp [leavesOf]
theorem leavesOf_sums (c : List Str) : sumsB (leavesOf c) = true := sumsB_iff.2 fun s hs => by
  obtain ⟨x, _, rfl⟩ := List.mem_map.1 hs
  exact leafOf_length x
theorem leavesOf_small {c : List Str} (h : c.length ≤ 1000000000) : Small (leavesOf c) := ⟨by rw [leavesOf_length]; exact h, fun s hs => by
  have := sumsB_iff.1 (leavesOf_sums c) s hs
  omega⟩
theorem leavesOf_succ {c : List Str} {k : Nat} (h : k < c.length) : SV (leavesOf (c.take k)) ++ [.string ⟨⟨leafOf (c.getD k [])⟩⟩] = SV (leavesOf (c.take (k + 1))) := by
  rw [SV_snoc, List.take_add_one, List.getD_eq_getElem?_getD, List.getElem?_eq_getElem h]
  show SV (leavesOf (c.take k) ++ [leafOf c[k]]) = SV (leavesOf (c.take k ++ [c[k]]))
  unfold leavesOf
  rw [List.map_append]; rfl

theorem Path_okc (R : Rd) (hG : ShaG R) (l : List Str) (i : Int) (v0 : Value) (hsm : Small l) (hs : Ss R v0 l) :
    Fn Tryd.prog 24 [v0, .int .i64 i] [] R (fun v h => ∃ A k cap xs, h = [.row A k cap 9 1 xs (0, 0)] ∧ grow k A ∧ k ≤ cap ∧
      ((¬ (0 ≤ i ∧ i < l.length) ∧ v = .tuple ⟨[.slice A k cap, .int .i64 1]⟩ ∧ k = 0 ∧ xs = []) ∨ (0 ≤ i ∧ i < l.length ∧ v = .tuple ⟨[.slice A k cap, .int .i64 0]⟩ ∧ k = (pathOf l i.toNat).length ∧ xs = SV (pathOf l i.toNat)))) :=
  Fn.post (Path_ok R hG l i v0 hsm hs) fun v h' w ⟨A, k, cap, xs, e, hg, hc⟩ o => ⟨A, k, cap, xs, e, hg, by subst e; exact (row_cap o 0 rfl).1, hc⟩

set_option maxRecDepth 100000 in
set_option maxHeartbeats 1000000 in
theorem MerkleProves_law (R : Rd) (hG : ShaG R) (v0 v1 : Value) (s0 : SeenV R (.sl 1 .str) v0) (s1 : SeenV R (.int .i64) v1) :
    Fn Tryd.prog 7 [v0, v1] [] R (fun v _ => v = .bool true) := by
  obtain ⟨c, hl, hs, _⟩ := s0.strings
  obtain ⟨i, rfl, _, _⟩ := s1.i64
  obtain ⟨B, cap0, rfl, hc, hsr⟩ := hs
  have hML := maxLen_eq
  refine fn_of_vc mixed tabOk Tryd.func7 rfl (by kernel_rfl) (Nat.le_of_ble_eq_true rfl) ?_
  refine ⟨[], _, awake_ok _ (hG.rh _), ?_⟩
  rintro _ _ ⟨rfl, rfl⟩
  repeat (first | (refine ⟨fun h => ?_, fun h => ?_⟩; rotate_left 1; (focus (exfalso; (first | (with_reducible (cases h; done)) | (revert h; simp; done) | (revert h; simp; omega) | (revert h; simp [*]; done)))); clear h) | (refine ⟨fun h => ?_, fun h => ?_⟩; (focus (exfalso; (first | (with_reducible (cases h; done)) | (revert h; simp; done) | (revert h; simp; omega) | (revert h; simp [*]; done)))); clear h))
  refine ⟨[], _, few_ok _ c _ (by omega) (hsr.rh _), ?_⟩
  rintro _ _ ⟨rfl, rfl⟩
  cases c1 : fewB c
  · repeat (first | (refine ⟨fun h => ?_, fun h => ?_⟩; rotate_left 1; (focus (exfalso; (first | (with_reducible (cases h; done)) | (revert h; simp; done) | (revert h; simp; omega) | (revert h; simp [*]; done)))); clear h) | (refine ⟨fun h => ?_, fun h => ?_⟩; (focus (exfalso; (first | (with_reducible (cases h; done)) | (revert h; simp; done) | (revert h; simp; omega) | (revert h; simp [*]; done)))); clear h))
    refine ⟨[], _, awake_ok _ (hG.rh _), ?_⟩
    rintro _ _ ⟨rfl, rfl⟩
    exact ⟨_, Ent.refl _, rfl⟩
  obtain ⟨hsm, hl20, h64⟩ := fewB_small c1
  by_cases c2 : i < 0
  · repeat (first | (refine ⟨fun h => ?_, fun h => ?_⟩; rotate_left 1; (focus (exfalso; (first | (with_reducible (cases h; done)) | (revert h; simp; done) | (revert h; simp; omega) | (revert h; simp [*]; done)))); clear h) | (refine ⟨fun h => ?_, fun h => ?_⟩; (focus (exfalso; (first | (with_reducible (cases h; done)) | (revert h; simp; done) | (revert h; simp; omega) | (revert h; simp [*]; done)))); clear h))
    refine ⟨[], _, awake_ok _ (hG.rh _), ?_⟩
    rintro _ _ ⟨rfl, rfl⟩
    exact ⟨_, Ent.refl _, rfl⟩
  by_cases c3 : (c.length : Int) ≤ i
  · repeat (first | (refine ⟨fun h => ?_, fun h => ?_⟩; rotate_left 1; (focus (exfalso; (first | (with_reducible (cases h; done)) | (revert h; simp; done) | (revert h; simp; omega) | (revert h; simp [*]; done)))); clear h) | (refine ⟨fun h => ?_, fun h => ?_⟩; (focus (exfalso; (first | (with_reducible (cases h; done)) | (revert h; simp; done) | (revert h; simp; omega) | (revert h; simp [*]; done)))); clear h))
    refine ⟨[], _, awake_ok _ (hG.rh _), ?_⟩
    rintro _ _ ⟨rfl, rfl⟩
    exact ⟨_, Ent.refl _, rfl⟩
  obtain ⟨i, rfl⟩ := Int.eq_ofNat_of_zero_le (show 0 ≤ i by omega)
  have hi : i < c.length := by omega
  repeat (first | (refine ⟨fun h => ?_, fun h => ?_⟩; rotate_left 1; (focus (exfalso; (first | (with_reducible (cases h; done)) | (revert h; simp; done) | (revert h; simp; omega) | (revert h; simp [*]; done)))); clear h) | (refine ⟨fun h => ?_, fun h => ?_⟩; (focus (exfalso; (first | (with_reducible (cases h; done)) | (revert h; simp; done) | (revert h; simp; omega) | (revert h; simp [*]; done)))); clear h))
  refine ⟨rfl, fun g => ?_⟩
  refine ⟨[none, none, none, none, none, some 5, some 6, none, none, none, none, none, none, none, none, none, none, none, none, none, none, none, none, none, none, none, none, none, none, none, some 30, some 31, some 32, some 33, some 34, some 35, some 36, some 37, some 38, some 39, some 40, some 41, some 42, some 43, some 44], [5, 6], Option Addr × Nat × Nat × List Str, fun ⟨A, cap, k, L⟩ => k ≤ c.length ∧ grow k A ∧ L = leavesOf (c.take k), fun ⟨A, cap, k, _⟩ => [.slice A k cap, .int .i64 k],
    fun ⟨A, cap, k, L⟩ => [.row A k cap 9 1 (SV L) (0, 0)], fun ⟨_, _, k, _⟩ => c.length - k, (some ⟨g, 0, .none⟩, 0, 0, []), ⟨Nat.zero_le _, .inl rfl, rfl⟩, ⟨rfl, rfl, trivial⟩, Ent.refl _, ?_⟩
  rintro ⟨A, cap, k, L⟩ ⟨hk, hg, hL⟩ js
  refine ⟨fun hb => ?_, fun hb => ?_⟩
  · replace hb := of_decide_eq_true hb
    have hil : k < c.length := by omega
    clear hb
    obtain ⟨a, ha, hr⟩ := hsr.one hil
    have hx : (c.getD k []).length ≤ 64 := h64 _ (by rw [List.getD_eq_getElem?_getD, List.getElem?_eq_getElem hil]; exact List.getElem_mem _)
    refine ⟨by omega, by omega, a, ha, _, .inl hr, ?_⟩
    refine ⟨show (c.getD k []).length ≤ maxLen by omega, fun g2 cap2 => ?_⟩
    refine ⟨[1], _, fn_row 0 rfl (callable Tryd.func17 rfl (by kernel_rfl)) fun hcap _ => Fn.frame (h := []) (k := [_]) (Leaf_ok _ ((hG.rh _).rh _) (c.getD k []) _ _ (by omega) hcap (SlR.own 0 rfl (by rw [BV_length, Nat.mul_one]) (.inr ⟨g2, rfl⟩))), ?_⟩
    rintro _ _ ⟨_, rfl, rfl, rfl⟩
    refine ⟨rfl, fun g3 => ?_⟩
    refine ⟨[.string ⟨⟨leafOf (c.getD k [])⟩⟩], rfl, rdRow 2 rfl, rfl, by show (_ + _) * 16 ≤ _; omega, by omega, .inr ⟨0, rfl, rfl, rfl, rfl, rfl, rfl, fun A' cap' hg' => ?_⟩⟩
    (intro z hz; obtain rfl : z = ((k + 1 : Nat) : Int) := (by first | (rw [IntKind.wrap_i64] at hz; omega) | (rw [IntKind.wrap_u64] at hz; omega) | omega); clear hz)
    refine ⟨rfl, (A', cap', k + 1, _), ⟨hil, hg', rfl⟩, by show c.length - (k + 1) < c.length - k; omega, ⟨rfl, rfl, trivial⟩, ?_, rfl⟩
    show Ent [.row A' (k + 1) cap' _ 1 (SV L ++ [.string ⟨⟨leafOf (c.getD k [])⟩⟩]) _, _, _] [.row A' (k + 1) cap' _ 1 (SV (leavesOf (c.take (k + 1)))) _]
    rw [hL, leavesOf_succ hil]
    exact Ent.drop [_] [_, _]
  · replace hb := of_decide_eq_false hb
    obtain rfl : k = c.length := by omega
    clear hb
    rw [List.take_length] at hL
    have hLl := (leavesOf_length c).symm
    have hLs := leavesOf_sums c
    have hLm := leavesOf_small (c := c) (by omega)
    have hok := proves (l := leavesOf c) (i := i) (by omega) hLs
    have hbits := pathR_bits _ (leavesOf c) i hLl.symm
    rw [← hL] at hLl hLs hLm hok hbits
    refine ⟨[0], _, fn_rowc 0 rfl (callable Tryd.func24 rfl (by kernel_rfl)) fun hcap _ => Fn.frame (h := []) (k := [_]) (Path_okc _ ((hG.rh _).rh _) L i _ hLm (Ss.own 0 rfl hLl hg hcap)), ?_⟩
    rintro _ _ ⟨hcap, _, rfl, A1, k1, cap1, xs1, rfl, hg1, hcap1, hc1⟩
    rcases hc1 with ⟨hn, _⟩ | ⟨_, _, rfl, rfl, rfl⟩
    · exact absurd ⟨by omega, by omega⟩ hn
    rw [Int.toNat_natCast] at hg1 hcap1 ⊢
    have hpl : (pathOf L i).length ≤ blen (c.length - 1) := by rw [pathOf, List.length_reverse]; exact hbits
    have hps : sumsB (pathOf L i) = true := by rw [pathOf, sumsB_reverse]; exact pathR_sums _ L i rfl hLs
    generalize pathOf L i = p at *
    (intro z hz; obtain rfl : z = ((c.length - 1 : Nat) : Int) := (by first | (rw [IntKind.wrap_i64] at hz; omega) | (rw [IntKind.wrap_u64] at hz; omega) | omega); clear hz)
    have hbl : blen (c.length - 1) ≤ 20 := blen_lt (by omega)
    refine ⟨[none, none, none, none, none, none, none, none, none, some 9, some 10, none, none, none, none, none, none, none, none, none, none, none, none, none, none, none, none, none, none, none, none, none, none, none, none, none, none, none, none, none, none, none, none, none, none, none, none, none, none, none, none, none, none, none, some 54, some 55, some 56, some 57, some 58, some 59], [9, 10], Nat × Nat, fun ⟨b, n⟩ => b + blen n = blen (c.length - 1) ∧ n ≤ 1000000, fun ⟨b, n⟩ => [.int .i64 b, .int .i64 n],
      fun _ => [.row A c.length cap 9 1 (SV L) (0, 0), .row A1 p.length cap1 9 1 (SV p) (0, 0)], fun ⟨_, n⟩ => n, (0, c.length - 1), ⟨Nat.zero_add _, by omega⟩, ⟨rfl, rfl, trivial⟩, Ent.refl _, ?_⟩
    rintro ⟨b, n⟩ ⟨hbn, hn6⟩ js2
    refine ⟨fun hb => ?_, fun hb => ?_⟩
    · replace hb := of_decide_eq_true hb
      have hn0 : 0 < n := by omega
      clear hb
      have hh := blen_half hn0
      (intro z hz; obtain rfl : z = ((b + 1 : Nat) : Int) := (by first | (rw [IntKind.wrap_i64] at hz; omega) | (rw [IntKind.wrap_u64] at hz; omega) | omega); clear hz)
      refine ⟨by decide, ?_⟩
      intro z hz
      obtain rfl := quo_nat (b := 2) rfl (by omega) hz
      clear hz
      exact ⟨rfl, (b + 1, n / 2), ⟨by omega, by omega⟩, by show n / 2 < n; omega, ⟨rfl, rfl, trivial⟩, Ent.refl _, rfl⟩
    · replace hb := of_decide_eq_false hb
      obtain rfl : n = 0 := by omega
      clear hb
      have hb2 : b = blen (c.length - 1) := by rw [← hbn]; rfl
      obtain ⟨a, ha, hr⟩ := (SsR.ownL (R := R) [.row A c.length cap 9 1 (SV L) (0, 0), .row A1 p.length cap1 9 1 (SV p) (0, 0)] 0 rfl hLl hg).one (i := i) (by omega)
      refine ⟨[0,0], (.q 0 (.q 1 (.q 2 (.q 3 (.q 4 (.q 5 (.q 6 (.q 7 (.q 8 (.q 9 (.q 10 (.q 11 (.q 12 (.q 13 (.q 14 (.q 15 (.q 16 (.q 17 (.one 18 (.one 19 (.q 20 (.q 21 .nil)))))))))))))))))))))), by kernel_rfl, ?_⟩
      repeat (first | (refine ⟨fun h => ?_, fun h => ?_⟩; rotate_left 1; (focus (exfalso; (first | (with_reducible (cases h; done)) | (revert h; simp; done) | (revert h; simp; omega) | (revert h; simp [*]; done)))); clear h) | (refine ⟨fun h => ?_, fun h => ?_⟩; (focus (exfalso; (first | (with_reducible (cases h; done)) | (revert h; simp; done) | (revert h; simp; omega) | (revert h; simp [*]; done)))); clear h))
      refine ⟨by omega, by omega, a, ha, ?_⟩
      repeat (first | (refine ⟨fun h => ?_, fun h => ?_⟩; rotate_left 1; (focus (exfalso; (first | (with_reducible (cases h; done)) | (revert h; simp; done) | (revert h; simp; omega) | (revert h; simp [*]; done)))); clear h) | (refine ⟨fun h => ?_, fun h => ?_⟩; (focus (exfalso; (first | (with_reducible (cases h; done)) | (revert h; simp; done) | (revert h; simp; omega) | (revert h; simp [*]; done)))); clear h))
      refine ⟨_, hr, ?_⟩
      repeat (first | (refine ⟨fun h => ?_, fun h => ?_⟩; rotate_left 1; (focus (exfalso; (first | (with_reducible (cases h; done)) | (revert h; simp; done) | (revert h; simp; omega) | (revert h; simp [*]; done)))); clear h) | (refine ⟨fun h => ?_, fun h => ?_⟩; (focus (exfalso; (first | (with_reducible (cases h; done)) | (revert h; simp; done) | (revert h; simp; omega) | (revert h; simp [*]; done)))); clear h))
      refine ⟨[], _, Root_ok _ ((hG.rh _).rh _) _ L _ rfl hLm ((Ss.own 0 rfl hLl hg hcap).rh _), ?_⟩
      rintro _ _ ⟨rfl, rfl⟩
      repeat (first | (refine ⟨fun h => ?_, fun h => ?_⟩; rotate_left 1; (focus (exfalso; (first | (with_reducible (cases h; done)) | (revert h; simp; done) | (revert h; simp; omega) | (revert h; simp [*]; done)))); clear h) | (refine ⟨fun h => ?_, fun h => ?_⟩; (focus (exfalso; (first | (with_reducible (cases h; done)) | (revert h; simp; done) | (revert h; simp; omega) | (revert h; simp [*]; done)))); clear h))
      rw [← hLl] at hok
      refine ⟨[], _, Verify_ok _ ((hG.rh _).rh _) _ _ _ _ p _ (by omega) (by omega) (by have := hLm.get i; omega) ⟨by omega, fun s hs => by have := sumsB_iff.1 hps s hs; omega⟩ ((Ss.own 1 rfl rfl hg1 hcap1).rh _), ?_⟩
      rintro _ _ ⟨rfl, rfl⟩
      rw [hok]
      repeat (first | (refine ⟨fun h => ?_, fun h => ?_⟩; rotate_left 1; (focus (exfalso; (first | (with_reducible (cases h; done)) | (revert h; simp; done) | (revert h; simp; omega) | (revert h; simp [*]; done)))); clear h) | (refine ⟨fun h => ?_, fun h => ?_⟩; (focus (exfalso; (first | (with_reducible (cases h; done)) | (revert h; simp; done) | (revert h; simp; omega) | (revert h; simp [*]; done)))); clear h))
      exact ⟨_, Ent.nil _, rfl⟩

end Go.Proofs.YtgbdfpfiolbhlaaDoor
