/-
  Contracts: Encode of a log, and of the reference's list.
-/
import Derived.Test.YtoddabjacjkjbaaDoorSaf
namespace Go.Proofs.YtoddabjacjkjbaaDoor
open Go Go.RowKit
set_option linter.unusedVariables false

def b2 (b : Bool) : UInt8 := if b then 1 else 0
def encM (m : Mk) : Str := encP m.s ++ ([b2 m.fo] ++ [b2 m.s.hd])
def encL (l : List Mk) : Str := num l.length ++ l.flatMap encM
theorem encM_le {m : Mk} (h : Valid m.s) : (encM m).length ≤ 202 := by
  have := encP_le h
  simp only [encM, List.length_append, List.length_cons, List.length_nil]
  omega
theorem encF_le : ∀ {l : List Mk}, (∀ m ∈ l, Valid m.s) → (l.flatMap encM).length ≤ l.length * 202
  | [], _ => by simp
  | m :: l, h => by
    rw [List.flatMap_cons, List.length_append, List.length_cons]
    have h1 := encM_le (h m (by simp))
    have h2 := encF_le (l := l) fun x hx => h x (by simp [hx])
    omega
theorem flat_valid2 {C : Lg} (hC : GoodC C) : ∀ m ∈ flatC C, Valid m.s := fun m hm => flat_valid hC m.s (List.mem_map.2 ⟨m, hm, rfl⟩)
/-- The bytes before writer w's record k. -/
def encU (C : Lg) (w k : Nat) : Str := num (countC C) ++ ((flatN C 0 w).flatMap encM ++ (((C w).take k).map Rec.mk').flatMap encM)
theorem encU_next {C : Lg} {w k : Nat} {x : Rec} (h : (C w)[k]? = some x) : encU C w (k + 1) = encU C w k ++ encM x.mk' := by
  unfold encU
  rw [List.take_add_one, h, List.map_append, List.flatMap_append]
  simp [List.append_assoc]
theorem encU_row (C : Lg) (w : Nat) : encU C w (C w).length = encU C (w + 1) 0 := by
  unfold encU
  rw [List.take_length, flatN_add, Nat.zero_add, flatN_one, List.flatMap_append]
  simp
theorem encU_all (C : Lg) : encU C 12 0 = encL (flatC C) := by
  unfold encU encL
  rw [flatC_length]
  simp [flatC]
theorem encU_le {C : Lg} (hC : GoodC C) (hn : countC C ≤ 4096) {w k : Nat} (hw : w ≤ 12) : (encU C w k).length ≤ 10 + countC C * 202 := by
  have h0 : (num (countC C)).length ≤ 10 := by rw [length_num]; exact usize_le10 (by omega)
  have hpre : (flatN C 0 w).length + ((C w).take k).length ≤ countC C := by
    by_cases hw2 : w < 12
    · have := flatC_length C
      rw [flatC_split C hw2, List.length_append, List.length_append, List.length_map] at this
      rw [List.length_take]
      omega
    · obtain rfl : w = 12 := by omega
      have h1 : (flatN C 0 12).length = countC C := flatC_length C
      rw [h1, hC.out _ (by omega)]; simp
  have h1 : ((flatN C 0 w).flatMap encM).length ≤ (flatN C 0 w).length * 202 := encF_le fun m hm => by
    obtain ⟨v, _, _, i, x, hx, rfl, _⟩ := mem_flatN hC hm
    exact (hC.rcd _ _ _ hx).2.2.2.hold x.he
  have h2 : ((((C w).take k).map Rec.mk').flatMap encM).length ≤ (((C w).take k).map Rec.mk').length * 202 := encF_le fun m hm => by
    obtain ⟨x, hx, rfl⟩ := List.mem_map.1 hm
    obtain ⟨i, hi⟩ := List.getElem?_of_mem (List.mem_of_mem_take hx)
    exact (hC.rcd _ _ _ hi).2.2.2.hold x.he
  rw [List.length_map] at h2
  simp only [encU, List.length_append]
  omega

set_option maxRecDepth 100000 in
set_option maxHeartbeats 8000000 in
theorem Encode_ok (R : Rd) {g r : Nat} {st : List WR} {c : Nat} {C : Lg} (hlok : LogOk st c) (hL : LogR R g r st) (hch : ∀ w, chainOf st w = C w) (hC : GoodC C) (hn : countC C ≤ 4096) :
    Fn Tryd.prog 34 [.pointer (some ⟨g, 0, .none⟩)] [logM r st c] R (fun v h => ∃ h1, OwnB v (encL (flatC C)) h1 ∧ h = logM r st c :: h1) := by
  have hML := maxLen_eq
  have htot := total_count hlok.keys hlok.rng
  have hCe : chainOf st = C := funext hch
  rw [hCe] at htot
  have hlen := fun w k hw => encU_le hC hn (w := w) (k := k) hw
  refine fn_of_vc mixed tabOk Tryd.func34 rfl (by kernel_rfl) (Nat.le_of_ble_eq_true rfl) ?_
  refine ⟨[], _, NewWriter_ok _, ?_⟩
  rintro _ _ ⟨gw, rfl, A, k, cap, xs, rfl, hk, hx, hg⟩
  refine ⟨[0], _, count_ok _ hlok (hL.rh _) (by omega), ?_⟩
  rintro _ _ ⟨rfl, rfl⟩
  rw [htot]
  refine ⟨[0, 0], _, WCount_ok _ gw [] 0 _ (countC C) (by omega) (by simp) ⟨A, k, cap, xs, rfl, hk, hx, hg⟩, ?_⟩
  clear hk hx hg
  rw [if_pos ⟨rfl, by omega⟩, if_neg (by omega), Int.toNat_natCast, List.nil_append]
  have e0 : num (countC C) = encU C 0 0 := by unfold encU; simp [flatN]
  rw [e0]
  rintro _ _ ⟨A, k, cap, xs, rfl, hk, hx, hg⟩
  refine ⟨[none, none, none, none, some 4, none, some 6, none, none, none, none, none, none, none, some 14, some 15, some 16, some 17, some 18, some 19, some 20, some 21, some 22, some 23, some 24, some 25, some 26, some 27, some 28, some 29, some 30, some 31, some 32, some 33, some 34, some 35, some 36, some 37, some 38, some 39, some 40, some 41], [14], Nat × Option Addr × Nat × Nat × List Value, fun ⟨w, A, k, cap, xs⟩ => w ≤ 12 ∧ k = (encU C w 0).length ∧ xs = BV (encU C w 0) ∧ grow k A, fun ⟨w, _⟩ => [.int .i64 w],
    fun ⟨w, A, k, cap, xs⟩ => [logM r st c, .blk gw 217 [.slice A k cap, .int .i64 0], .row A k cap 5 1 xs (0, 0)], fun ⟨w, _⟩ => 12 - w, (0, A, k, cap, xs), ⟨Nat.zero_le _, hk, hx, hg⟩, ⟨rfl, trivial⟩, Ent.refl _, ?_⟩
  clear hk hx hg
  rintro ⟨w, A, k, cap, xs⟩ ⟨hw, hk, hx, hg⟩ js
  refine ⟨fun hb0 => ?_, fun hb0 => ?_⟩
  · have hb1 := of_decide_eq_true hb0
    have hw12 : w < 12 := by omega
    clear hb0 hb1
    have hlC := len_le_count hC.out w
    refine ⟨_, .inl hL.m, ?_⟩
    refine ⟨0, rfl, like_ents _ _, ?_⟩
    rintro v b hf
    obtain ⟨B, capB, rfl, hs⟩ := hL.found hf
    clear hf
    rw [hch] at hs ⊢
    refine ⟨[none, none, none, none, none, none, some 6, none, none, none, none, none, none, none, none, none, none, none, none, none, none, none, none, none, some 24, some 25, some 26, some 27, some 28, some 29, some 30, some 31, some 32, some 33, some 34, some 35, some 36, some 37, some 38, some 39, some 40], [24], Nat × Option Addr × Nat × Nat × List Value, fun ⟨i, A, k, cap, xs⟩ => i ≤ (C w).length ∧ k = (encU C w i).length ∧ xs = BV (encU C w i) ∧ grow k A, fun ⟨i, _⟩ => [.int .i64 i],
      fun ⟨i, A, k, cap, xs⟩ => [logM r st c, .blk gw 217 [.slice A k cap, .int .i64 0], .row A k cap 5 1 xs (0, 0)], fun ⟨i, _⟩ => (C w).length - i, (0, A, k, cap, xs), ⟨Nat.zero_le _, hk, hx, hg⟩, ⟨rfl, trivial⟩, Ent.refl _, ?_⟩
    clear hk hx hg
    rintro ⟨i, A, k, cap, xs⟩ ⟨hi, hk, hx, hg⟩ js2
    refine ⟨fun hb0 => ?_, fun hb0 => ?_⟩
    · have hb1 := of_decide_eq_true hb0
      have hil : i < (C w).length := by omega
      clear hb0 hb1
      have hget := List.getElem?_eq_getElem hil
      generalize (C w)[i] = x at hget
      have hV := (hC.rcd _ _ _ hget).2.2.2
      have hnext := encU_next hget
      have hl1 := hlen w i (by omega)
      have hp := encP_le hV
      obtain ⟨a, rfl, hr⟩ := slr_at (c := Rec.cells) (fun _ => rfl) (by omega) hs hget
      refine ⟨by omega, by omega, a, rfl, ?_⟩
      refine ⟨x.cells, fun j u hu => .inl (rdnS (vs := x.cells) (fun j u hu => hr j u hu) j u hu), rfl, ?_⟩
      intro g6
      refine ⟨rfl, rfl, 3, rfl, rfl, Nat.le_of_ble_eq_true rfl, ?_⟩
      rw [setRange_full (vs := cls (.agg ⟨x.cells⟩)) (cs := cls ti164.zero) rfl rfl]
      refine ⟨x.s.cells, rdOff (cs := x.cells) (o := 0) (n := 10) 3 rfl rfl, rfl, ?_⟩
      refine ⟨[1, 1], _, write_ok _ gw (encU C w i) _ x.s hV (by omega) ⟨A, k, cap, xs, rfl, hk, hx, hg⟩, ?_⟩
      clear hk hx hg
      rintro _ _ ⟨A, k, cap, xs, rfl, hk, hx, hg⟩
      refine ⟨.bool x.fo, ld 1 rfl rfl, ?_⟩
      refine ⟨[2, 2], _, WBool_ok _ gw _ 0 _ x.fo (by rw [List.length_append]; omega) ⟨A, k, cap, xs, rfl, hk, hx, hg⟩, ?_⟩
      clear hk hx hg
      rw [if_pos rfl]
      rintro _ _ ⟨A, k, cap, xs, rfl, hk, hx, hg⟩
      refine ⟨.bool x.he, ld 1 rfl rfl, ?_⟩
      refine ⟨[2, 2], _, WBool_ok _ gw _ 0 _ x.he (by rw [List.length_append, List.length_append]; simp; omega) ⟨A, k, cap, xs, rfl, hk, hx, hg⟩, ?_⟩
      clear hk hx hg
      rw [if_pos rfl]
      have e1 : encU C w i ++ encP x.s ++ [if x.fo = true then 1 else 0] ++ [if x.he = true then 1 else 0] = encU C w (i + 1) := by
        rw [hnext, encM, List.append_assoc, List.append_assoc]; rfl
      rw [e1]
      rintro _ _ ⟨A, k, cap, xs, rfl, hk, hx, hg⟩
      (intro z hz; obtain rfl : z = ((i + 1 : Nat) : Int) := (by first | (rw [IntKind.wrap_i64] at hz; omega) | (rw [IntKind.wrap_u64] at hz; omega) | omega); clear hz)
      exact ⟨rfl, (i + 1, A, k, cap, xs), ⟨hil, hk, hx, hg⟩, by show (C w).length - (i + 1) < (C w).length - i; omega, ⟨rfl, trivial⟩, Ent.pick [0, 1, 1] rfl, rfl⟩
    · have hb1 := of_decide_eq_false hb0
      obtain rfl : i = (C w).length := by have hi : i ≤ (C w).length := hi; omega
      (intro z hz; obtain rfl : z = ((w + 1 : Nat) : Int) := (by first | (rw [IntKind.wrap_i64] at hz; omega) | (rw [IntKind.wrap_u64] at hz; omega) | omega); clear hz)
      have hk' : k = (encU C (w + 1) 0).length := by rw [← encU_row]; exact hk
      have hx' : xs = BV (encU C (w + 1) 0) := by rw [← encU_row]; exact hx
      exact ⟨rfl, (w + 1, A, k, cap, xs), ⟨hw12, hk', hx', hg⟩, by show 12 - (w + 1) < 12 - w; omega, ⟨rfl, trivial⟩, Ent.refl _, rfl⟩
  · have hb1 := of_decide_eq_false hb0
    obtain rfl : w = 12 := by have hw : w ≤ 12 := hw; omega
    refine ⟨[1, 1], _, WDone_ok _ gw (encU C 12 0) 0 _ ⟨A, k, cap, xs, rfl, hk, hx, hg⟩, ?_⟩
    clear hk hx hg
    have hl1 := hlen 12 0 (by omega)
    have e1 : doneB (encU C 12 0) 0 = encL (flatC C) := by rw [doneB, if_pos ⟨rfl, by omega⟩, encU_all]
    rw [e1]
    rintro _ _ ⟨sl, _, _, rfl, rfl, ⟨A, k, cap, xs, rfl, -, -, -⟩, ⟨A2, k2, cap2, xs2, rfl, rfl, hk2, hx2, hg2⟩⟩
    exact ⟨_, Ent.pick [0, 2] rfl, [_], ⟨A2, k2, cap2, xs2, rfl, rfl, hk2, hx2, hg2⟩, rfl⟩

/-! ### the reference -/
def boolI (b : Bool) : Item := ⟨3, 0, 0, b, [], 0⟩
def cntI (n : Nat) : Item := ⟨7, 0, n, false, [], 0⟩
def itM (m : Mk) : List Item := valI m.s ++ [boolI m.fo, boolI m.s.hd]
theorem items_app (a b : List Item) : items (a ++ b) = items a ++ items b := by simp [items]
theorem items_one (l : List Item) : allOne (items l) = true := by
  refine allOne_of fun u hu => ?_
  obtain ⟨m, _, hm⟩ := List.mem_flatMap.1 hu
  simp only [Item.cells, List.mem_cons, List.not_mem_nil, or_false] at hm
  rcases hm with rfl | rfl | rfl | rfl | rfl | rfl <;> rfl
theorem put_bool (bs : List UInt8) (b : Bool) : put1 (bs, 0) (boolI b) = (bs ++ [b2 b], 0) := by
  rw [put_some (y := [if b then 1 else 0]) rfl, if_pos rfl]; rfl
theorem put_cnt (bs : List UInt8) (n : Nat) : put1 (bs, 0) (cntI n) = (bs ++ num n, 0) := by
  have h : ¬ ((n : Nat) : Int) < 0 := by omega
  rw [put_some (y := num n) (by simp [enc1, cntI, h]), if_pos rfl]
theorem itF_len : ∀ (l : List Mk), (l.flatMap itM).length = l.length * 11
  | [] => rfl
  | m :: l => by
    rw [List.flatMap_cons, List.length_append, itF_len l, List.length_cons]
    have : (itM m).length = 11 := rfl
    omega
theorem encS_itM : ∀ {l : List Mk}, (∀ m ∈ l, Valid m.s) → ∀ bs : List UInt8, (l.flatMap itM).foldl put1 (bs, 0) = (bs ++ l.flatMap encM, 0)
  | [], _, bs => by simp
  | m :: l, h, bs => by
    rw [List.flatMap_cons, List.flatMap_cons, List.foldl_append, itM, List.foldl_append, encS_valI (h m (by simp))]
    simp only [List.foldl_cons, List.foldl_nil, put_bool]
    rw [encS_itM fun x hx => h x (by simp [hx])]
    simp [encM, List.append_assoc]
theorem encS_all {l : List Mk} (h : ∀ m ∈ l, Valid m.s) : encS (cntI l.length :: l.flatMap itM) = (encL l, 0) := by
  unfold encS
  rw [List.foldl_cons, put_cnt, List.nil_append, encS_itM h]; rfl
theorem itM_ok {l : List Mk} (h : ∀ m ∈ l, Valid m.s) (hn : l.length ≤ 1000000) : ∀ x ∈ cntI l.length :: l.flatMap itM, x.Ok ∧ x.s.length ≤ 100000 := by
  intro x hx
  rcases List.mem_cons.1 hx with rfl | hx
  · exact ⟨⟨Nat.zero_le _, by show _ ≤ (l.length : Int); omega, by show (l.length : Int) ≤ _; omega, by show _ ≤ (7 : Int); omega, by show (7 : Int) ≤ _; omega, by show _ ≤ (0 : Int); omega, by show (0 : Int) ≤ _; omega, Nat.zero_le _⟩, Nat.zero_le _⟩
  · obtain ⟨m, hm, hx⟩ := List.mem_flatMap.1 hx
    rcases List.mem_append.1 hx with hx | hx
    · exact valI_ok (h m hm) x hx
    · have hb : ∀ b, (boolI b).Ok ∧ (boolI b).s.length ≤ 100000 := fun b => ⟨⟨Nat.zero_le _, by show _ ≤ (0 : Int); omega, by show (0 : Int) ≤ _; omega, by show _ ≤ (3 : Int); omega, by show (3 : Int) ≤ _; omega, by show _ ≤ (0 : Int); omega, by show (0 : Int) ≤ _; omega, Nat.zero_le _⟩, Nat.zero_le _⟩
      simp only [List.mem_cons, List.not_mem_nil, or_false] at hx
      rcases hx with rfl | rfl
      · exact hb _
      · exact hb _

end Go.Proofs.YtoddabjacjkjbaaDoor
