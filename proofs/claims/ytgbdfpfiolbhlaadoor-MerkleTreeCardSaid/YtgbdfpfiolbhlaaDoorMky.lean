/-
  Trees that grow: the roots of parts (read only).
-/
import Derived.Test.YtgbdfpfiolbhlaaDoorMkx
namespace Go.Proofs.YtgbdfpfiolbhlaaDoor
open Go Go.RowKit
set_option linter.unusedVariables false

/-- The roots of the whole subtrees of 2^j leaves. -/
def lvl (j : Nat) (l : List Str) : List Str := (List.range (l.length / 2 ^ j)).map fun i => rootOf ((l.drop (i * 2 ^ j)).take (2 ^ j))
theorem lvl_length (j : Nat) (l : List Str) : (lvl j l).length = l.length / 2 ^ j := by simp [lvl]
theorem lvl_get {j : Nat} {l : List Str} {i : Nat} (h : i < l.length / 2 ^ j) : (lvl j l).getD i [] = rootOf ((l.drop (i * 2 ^ j)).take (2 ^ j)) := by
  rw [List.getD_eq_getElem?_getD, lvl, List.getElem?_map, List.getElem?_range h]; rfl
/-- A tree that is read. -/
def TreeR (R : Rd) (g : Nat) (l : List Str) : Prop :=
  ∃ (gl K cl : Nat) (lv : Nat → Lv), K ≤ 5 ∧ R ⟨g, 0, .none⟩ (.slice (some ⟨gl, 0, .none⟩) K cl) ∧
    ∀ j, j = 0 ∨ 2 ^ j ≤ l.length → j < K ∧ R (addA ⟨gl, 0, .none⟩ (Int.toNat (j : Int) * 1)) (lv j).val ∧ SsR R (lv j).val (lv j).L ∧ (lv j).L = lvl j l
theorem TreeR.rh {R : Rd} {g : Nat} {l : List Str} (h : TreeR R g l) (hp : Hp) : TreeR (RH R hp) g l := by
  obtain ⟨gl, K, cl, lv, hK, h1, h2⟩ := h
  exact ⟨gl, K, cl, lv, hK, .inl h1, fun j hj => ⟨(h2 j hj).1, .inl (h2 j hj).2.1, (h2 j hj).2.2.1.rh _, (h2 j hj).2.2.2⟩⟩

theorem shl_one {j : Nat} (hj : j ≤ 40) {z : Int} (hz : z = IntKind.i64.wrap (1 * 2 ^ (min (Int.toNat (j : Int)) IntKind.i64.bits))) : z = ((2 ^ j : Nat) : Int) := by
  have hp : 2 ^ j ≤ 2 ^ 40 := Nat.pow_le_pow_right (by omega) hj
  rw [Int.toNat_natCast, show min j IntKind.i64.bits = j by simp [IntKind.bits]; omega, IntKind.wrap_i64] at hz
  have e : (1 : Int) * 2 ^ j = ((2 ^ j : Nat) : Int) := by simp
  rw [e] at hz
  generalize 2 ^ j = p at hz hp ⊢
  omega
theorem i64_shr {n s : Nat} (hs : s ≤ 64) {z : Int} (h : z = ((n : Nat) : Int).fdiv (2 ^ (min (Int.toNat (s : Int)) IntKind.i64.bits))) : z = ((n / 2 ^ s : Nat) : Int) := by
  have e : min (Int.toNat (s : Int)) IntKind.i64.bits = s := by simp [IntKind.bits]; omega
  rw [h, e, Int.fdiv_eq_ediv_of_nonneg _ (Int.le_of_lt (Int.pow_pos (by omega)))]
  simp

set_option maxRecDepth 100000 in
theorem part_ok (g : Nat) (l : List Str) (hl : Small l) (hl6 : l.length ≤ 1000000) : ∀ (n : Nat) (R : Rd) (hG : ShaG R) (hT : TreeR R g l) (start j : Nat), start + n ≤ l.length → n ≤ 2 ^ j → 2 ^ j ∣ start →
    Fn Tryd.prog 74 [.pointer (some ⟨g, 0, .none⟩), .int .i64 start, .int .i64 n] [] R (fun v h => v = .string ⟨⟨rootOf ((l.drop start).take n)⟩⟩ ∧ h = []) := by
  intro n
  induction n using Nat.strongRecOn with
  | _ n ih =>
  intro R hG hT start j hsn hnj hdv
  have hT' := hT
  obtain ⟨gl, K, cl, lv, hK, h1, h2⟩ := hT
  refine fn_of_vc mixed tabOk Tryd.func74 rfl (by kernel_rfl) (Nat.le_of_ble_eq_true rfl) ?_
  by_cases hn0 : n = 0
  · subst hn0
    repeat (first | (refine ⟨fun h => ?_, fun h => ?_⟩; rotate_left 1; (focus (exfalso; (first | (with_reducible (cases h; done)) | (revert h; simp; done) | (revert h; simp; omega) | (revert h; simp [*]; done)))); clear h) | (refine ⟨fun h => ?_, fun h => ?_⟩; (focus (exfalso; (first | (with_reducible (cases h; done)) | (revert h; simp; done) | (revert h; simp; omega) | (revert h; simp [*]; done)))); clear h))
    refine ⟨[], _, Root_ok _ (hG.rh _) 0 [] _ rfl Small.nil (Ss.nil _), ?_⟩
    rintro _ _ ⟨rfl, rfl⟩
    exact ⟨_, Ent.refl _, rfl, rfl⟩
  have hb : blen n = Nat.log2 n + 1 := by rw [blen, if_neg hn0]
  have hb2 : blen n ≤ 20 := blen_lt (by omega)
  have he1 : 2 ^ Nat.log2 n ≤ n := Nat.log2_self_le hn0
  repeat (first | (refine ⟨fun h => ?_, fun h => ?_⟩; rotate_left 1; (focus (exfalso; (first | (with_reducible (cases h; done)) | (revert h; simp; done) | (revert h; simp; omega) | (revert h; simp [*]; done)))); clear h) | (refine ⟨fun h => ?_, fun h => ?_⟩; (focus (exfalso; (first | (with_reducible (cases h; done)) | (revert h; simp; done) | (revert h; simp; omega) | (revert h; simp [*]; done)))); clear h))
  (intro z hz; obtain rfl : z = ((n : Nat) : Int) := (by first | (rw [IntKind.wrap_i64] at hz; omega) | (rw [IntKind.wrap_u64] at hz; omega) | omega); clear hz)
  refine ⟨[], _, Len_ok _ n (by omega), ?_⟩
  rintro _ _ ⟨rfl, rfl⟩
  (intro z hz; obtain rfl : z = ((Nat.log2 n : Nat) : Int) := (by first | (rw [IntKind.wrap_i64] at hz; omega) | (rw [IntKind.wrap_u64] at hz; omega) | omega); clear hz)
  refine ⟨by omega, ?_⟩
  intro z hz
  obtain rfl := shl_one (by omega) hz
  clear hz
  by_cases hp : n = 2 ^ Nat.log2 n
  · have hej : Nat.log2 n ≤ j := by
      rcases Nat.lt_or_ge j (Nat.log2 n) with h | h
      · have := Nat.pow_lt_pow_right (a := 2) (by omega) h; omega
      · exact h
    have hde : 2 ^ Nat.log2 n ∣ start := Nat.dvd_trans (Nat.pow_dvd_pow 2 hej) hdv
    obtain ⟨hjK, hr1, hr2, hL⟩ := h2 (Nat.log2 n) (.inr (by omega))
    have hp0 := Nat.two_pow_pos (Nat.log2 n)
    have hidx : start / 2 ^ Nat.log2 n < l.length / 2 ^ Nat.log2 n := by
      have h3 : (start + 2 ^ Nat.log2 n) / 2 ^ Nat.log2 n ≤ l.length / 2 ^ Nat.log2 n := Nat.div_le_div_right (by omega)
      rw [Nat.add_div_right _ hp0] at h3
      omega
    have hlen : (lv (Nat.log2 n)).L.length = l.length / 2 ^ Nat.log2 n := by rw [hL, lvl_length]
    obtain ⟨a, ha, hr⟩ := hr2.one (i := start / 2 ^ Nat.log2 n) (by rw [hlen]; exact hidx)
    have hgoal : (lv (Nat.log2 n)).L.getD (start / 2 ^ Nat.log2 n) [] = rootOf ((l.drop start).take n) := by
      rw [hL, lvl_get hidx, Nat.div_mul_cancel hde, ← hp]
    rw [hgoal] at hr
    have hpc : (n : Int) = ((2 ^ Nat.log2 n : Nat) : Int) := by rw [← hp]
    refine ⟨fun _ => ?_, fun h => absurd hpc (of_decide_eq_false h)⟩
    refine ⟨[], lexT 0 13, by kernel_rfl, ?_⟩
    refine ⟨_, .inl h1, ?_⟩
    refine ⟨by omega, by omega, _, rfl, _, .inl hr1, ?_⟩
    refine ⟨by omega, ?_⟩
    intro z hz
    obtain rfl := i64_shr (by omega) hz
    clear hz
    refine ⟨?_, ?_, a, ha, _, .inl hr, ?_⟩
    · exact Int.natCast_nonneg _
    · rw [hlen]; exact Int.ofNat_lt.2 hidx
    exact ⟨_, Ent.refl _, rfl, rfl⟩
  · have hnc : ¬ (n : Int) = ((2 ^ Nat.log2 n : Nat) : Int) := fun h => hp (by exact_mod_cast h)
    have h2n : 2 ≤ n := by
      rcases Nat.lt_or_ge n 2 with h | h
      · have : n = 1 := by omega
        subst this
        exact absurd (by decide) hp
      · exact h
    have hk := splitN_lt h2n
    have hk0 := splitN_pos n
    have hk1 := splitN_ge h2n
    have hej : Nat.log2 (n - 1) ≤ j := by
      rcases Nat.lt_or_ge j (Nat.log2 (n - 1)) with h | h
      · have := Nat.pow_lt_pow_right (a := 2) (by omega) h
        unfold splitN at hk
        omega
      · exact h
    have hde : splitN n ∣ start := Nat.dvd_trans (Nat.pow_dvd_pow 2 hej) hdv
    have hroot : rootOf ((l.drop start).take n) = nodeOf (rootOf ((l.drop start).take (splitN n))) (rootOf ((l.drop (start + splitN n)).take (n - splitN n))) := by
      have hlen : ((l.drop start).take n).length = n := by rw [List.length_take, List.length_drop]; omega
      rw [rootOf_two (by omega : 2 ≤ ((l.drop start).take n).length), hlen, List.take_take, Nat.min_eq_left (by omega), List.drop_take, List.drop_drop]
    have hs1 : (rootOf ((l.drop start).take (splitN n))).length ≤ 1000000 := ((hl.drop start).take (splitN n)).root
    have hs2 : (rootOf ((l.drop (start + splitN n)).take (n - splitN n))).length ≤ 1000000 := ((hl.drop (start + splitN n)).take (n - splitN n)).root
    refine ⟨fun h => absurd (of_decide_eq_true h) hnc, fun _ => ?_⟩
    refine ⟨[], _, split_ok _ n h2n (by omega), ?_⟩
    rintro _ _ ⟨rfl, rfl⟩
    refine ⟨[], _, ih (splitN n) hk _ (hG.rh _) (hT'.rh _) start (Nat.log2 (n - 1)) (by omega) (Nat.le_refl _) hde, ?_⟩
    rintro _ _ ⟨rfl, rfl⟩
    (intro z hz; obtain rfl : z = ((start + splitN n : Nat) : Int) := (by first | (rw [IntKind.wrap_i64] at hz; omega) | (rw [IntKind.wrap_u64] at hz; omega) | omega); clear hz)
    (intro z hz; obtain rfl : z = ((n - splitN n : Nat) : Int) := (by first | (rw [IntKind.wrap_i64] at hz; omega) | (rw [IntKind.wrap_u64] at hz; omega) | omega); clear hz)
    refine ⟨[], _, ih (n - splitN n) (by omega) _ (hG.rh _) (hT'.rh _) (start + splitN n) (Nat.log2 (n - 1)) (by omega) (by show _ ≤ splitN n; omega) (Nat.dvd_add hde (Nat.dvd_refl _)), ?_⟩
    rintro _ _ ⟨rfl, rfl⟩
    refine ⟨[], _, Node_ok _ (hG.rh _) _ _ (by omega) (by omega), ?_⟩
    rintro _ _ ⟨rfl, rfl⟩
    exact ⟨_, Ent.refl _, by rw [hroot]; rfl, rfl⟩

theorem lvl_zero (l : List Str) : (lvl 0 l).length = l.length := by rw [lvl_length]; simp
theorem TLen_ok (R : Rd) (g : Nat) (l : List Str) (hT : TreeR R g l) : Fn Tryd.prog 50 [.pointer (some ⟨g, 0, .none⟩)] [] R (fun v h => v = .int .i64 l.length ∧ h = []) := by
  obtain ⟨gl, K, cl, lv, hK, h1, h2⟩ := hT
  obtain ⟨hjK, hr1, hr2, hL⟩ := h2 0 (.inl rfl)
  have hlen : (lv 0).L.length = l.length := by rw [hL, lvl_zero]
  refine fn_of_vc mixed tabOk Tryd.func50 rfl (by kernel_rfl) (Nat.le_of_ble_eq_true rfl) ?_
  refine ⟨_, .inl h1, ?_⟩
  repeat (first | (refine ⟨fun h => ?_, fun h => ?_⟩; rotate_left 1; (focus (exfalso; (first | (with_reducible (cases h; done)) | (revert h; simp; done) | (revert h; simp; omega) | (revert h; simp [*]; done)))); clear h) | (refine ⟨fun h => ?_, fun h => ?_⟩; (focus (exfalso; (first | (with_reducible (cases h; done)) | (revert h; simp; done) | (revert h; simp; omega) | (revert h; simp [*]; done)))); clear h))
  refine ⟨_, .inl h1, ?_⟩
  refine ⟨by decide, by omega, _, rfl, _, .inl hr1, ?_⟩
  exact ⟨_, Ent.refl _, by rw [← hlen]; rfl, rfl⟩

def rootV (l : List Str) (n : Int) : Str × Int := if 0 ≤ n ∧ n ≤ l.length then (rootOf (l.take n.toNat), 0) else ([], 1)
theorem TRoot_ok (R : Rd) (hG : ShaG R) (g : Nat) (l : List Str) (hT : TreeR R g l) (hl : Small l) (hl6 : l.length ≤ 1000000) (n : Int) :
    Fn Tryd.prog 47 [.pointer (some ⟨g, 0, .none⟩), .int .i64 n] [] R (fun v h => v = .tuple ⟨[.string ⟨⟨(rootV l n).1⟩⟩, .int .i64 (rootV l n).2]⟩ ∧ h = []) := by
  refine fn_of_vc mixed tabOk Tryd.func47 rfl (by kernel_rfl) (Nat.le_of_ble_eq_true rfl) ?_
  by_cases c1 : n < 0
  · repeat (first | (refine ⟨fun h => ?_, fun h => ?_⟩; rotate_left 1; (focus (exfalso; (first | (with_reducible (cases h; done)) | (revert h; simp; done) | (revert h; simp; omega) | (revert h; simp [*]; done)))); clear h) | (refine ⟨fun h => ?_, fun h => ?_⟩; (focus (exfalso; (first | (with_reducible (cases h; done)) | (revert h; simp; done) | (revert h; simp; omega) | (revert h; simp [*]; done)))); clear h))
    refine ⟨_, Ent.refl _, ?_, rfl⟩
    rw [rootV, if_neg (by omega)]; rfl
  repeat (first | (refine ⟨fun h => ?_, fun h => ?_⟩; rotate_left 1; (focus (exfalso; (first | (with_reducible (cases h; done)) | (revert h; simp; done) | (revert h; simp; omega) | (revert h; simp [*]; done)))); clear h) | (refine ⟨fun h => ?_, fun h => ?_⟩; (focus (exfalso; (first | (with_reducible (cases h; done)) | (revert h; simp; done) | (revert h; simp; omega) | (revert h; simp [*]; done)))); clear h))
  refine ⟨[], _, TLen_ok _ g l (hT.rh _), ?_⟩
  rintro _ _ ⟨rfl, rfl⟩
  by_cases c2 : (l.length : Int) < n
  · repeat (first | (refine ⟨fun h => ?_, fun h => ?_⟩; rotate_left 1; (focus (exfalso; (first | (with_reducible (cases h; done)) | (revert h; simp; done) | (revert h; simp; omega) | (revert h; simp [*]; done)))); clear h) | (refine ⟨fun h => ?_, fun h => ?_⟩; (focus (exfalso; (first | (with_reducible (cases h; done)) | (revert h; simp; done) | (revert h; simp; omega) | (revert h; simp [*]; done)))); clear h))
    refine ⟨_, Ent.refl _, ?_, rfl⟩
    rw [rootV, if_neg (by omega)]; rfl
  obtain ⟨n, rfl⟩ := Int.eq_ofNat_of_zero_le (show 0 ≤ n by omega)
  repeat (first | (refine ⟨fun h => ?_, fun h => ?_⟩; rotate_left 1; (focus (exfalso; (first | (with_reducible (cases h; done)) | (revert h; simp; done) | (revert h; simp; omega) | (revert h; simp [*]; done)))); clear h) | (refine ⟨fun h => ?_, fun h => ?_⟩; (focus (exfalso; (first | (with_reducible (cases h; done)) | (revert h; simp; done) | (revert h; simp; omega) | (revert h; simp [*]; done)))); clear h))
  refine ⟨[], _, part_ok g l hl hl6 n _ (hG.rh _) (hT.rh _) 0 20 (by omega) (by show n ≤ 1048576; omega) (Nat.dvd_zero _), ?_⟩
  rintro _ _ ⟨rfl, rfl⟩
  refine ⟨_, Ent.refl _, ?_, rfl⟩
  rw [rootV, if_pos (by omega), Int.toNat_natCast, List.drop_zero]; rfl

end Go.Proofs.YtgbdfpfiolbhlaaDoor
