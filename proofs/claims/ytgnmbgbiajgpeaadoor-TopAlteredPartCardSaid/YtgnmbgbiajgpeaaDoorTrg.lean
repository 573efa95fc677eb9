/-
  Transfer: contracts of what a receiver says: Next, Missing, Have, Piece.
-/
import Derived.Test.YtgnmbgbiajgpeaaDoorTrf
namespace Go.Proofs.YtgnmbgbiajgpeaaDoor
open Go Go.RowKit
set_option linter.unusedVariables false

/-- The offsets of missing parts. -/
def missL (sls : List Slot) : List Nat := (List.range sls.length).flatMap fun i => match sls.getD i .none with
  | .none => [i * 512]
  | some _ => []
def missK (sls : List Slot) (k : Nat) : List Nat := (List.range k).flatMap fun i => match sls.getD i .none with
  | .none => [i * 512]
  | some _ => []
theorem missK_succ (sls : List Slot) (k : Nat) : missK sls (k + 1) = missK sls k ++ (match sls.getD k .none with
  | .none => [k * 512]
  | some _ => []) := by
  unfold missK
  rw [List.range_succ, List.flatMap_append, List.flatMap_singleton]
theorem missK_none {sls : List Slot} {k : Nat} (h : sls.getD k .none = .none) : missK sls (k + 1) = missK sls k ++ [k * 512] := by rw [missK_succ, h]
theorem missK_some {sls : List Slot} {k : Nat} {x : Str × List Str} (h : sls.getD k .none = some x) : missK sls (k + 1) = missK sls k := by rw [missK_succ, h, List.append_nil]
theorem missK_le (sls : List Slot) : ∀ k, (missK sls k).length ≤ k
  | 0 => Nat.le_refl _
  | k + 1 => by
    have := missK_le sls k
    rw [missK_succ, List.length_append]
    cases sls.getD k .none with
    | none => show _ + 1 ≤ _; omega
    | some x => show _ + 0 ≤ _; omega
theorem missK_mono (sls : List Slot) {k n : Nat} (h : k ≤ n) : ∃ r, missK sls n = missK sls k ++ r := by
  induction n with
  | zero => obtain rfl : k = 0 := by omega
            exact ⟨[], by simp⟩
  | succ n ih =>
    rcases Nat.lt_or_ge k (n + 1) with hk | hk
    · obtain ⟨r, hr⟩ := ih (by omega)
      rw [missK_succ, hr]
      exact ⟨_, List.append_assoc _ _ _⟩
    · obtain rfl : k = n + 1 := by omega
      exact ⟨[], by simp⟩
/-- The data of the parts that are there. -/
def dataL (sls : List Slot) : List Str := sls.map fun x => match x with
  | .none => []
  | some (d, _) => d
def haveB (sls : List Slot) : Str := cat (dataL sls)
theorem data_pl {sl : List Sl} {R : Rd} {g : Nat} {h : Hd} (r : RcR R g h sl) : dataL (sl.map Sl.pl) = sl.map Sl.d := by
  obtain ⟨C, cc, gd, gp, h1, h2, h3, h4, h5⟩ := r
  unfold dataL
  rw [List.map_map]
  refine List.map_congr_left fun s hs => ?_
  have := (h5 s hs).2.2
  show (match s.pl with | .none => [] | some (d, _) => d) = s.d
  unfold Sl.pl
  cases hA : s.A with
  | none => rw [this hA]; rfl
  | some a => rfl
def NV (l : List Nat) : List Value := l.map fun n : Nat => .int .i64 (n : Int)
theorem NV_length (l : List Nat) : (NV l).length = l.length := List.length_map _
theorem NV_append (a b : List Nat) : NV (a ++ b) = NV a ++ NV b := List.map_append
/-- Numbers in a new slice. -/
def OwnN (v : Value) (l : List Nat) (h : Hp) : Prop := ∃ A cap, v = .slice A l.length cap ∧ h = [.row A l.length cap 3 1 (NV l) (0, 0)] ∧ grow l.length A
theorem sl_at {R : Rd} {gd n : Nat} {cs : List Value} (h : CellsAt R gd cs) {i : Nat} {v : Value} (hv : cs[i]? = some v) : R (addA ⟨gd, 0, .none⟩ (Int.toNat (i : Int) * 1)) v := by
  rw [toNat1, ← addA_eq, add_zero_addr]; exact h i v hv
theorem next_none {sls : List Slot} {i : Nat} (hm : missK sls i = []) (hi : sls.getD i .none = .none) (hlt : i < sls.length) : ∃ r, missL sls = i * 512 :: r := by
  obtain ⟨r, hr⟩ := missK_mono sls (show i + 1 ≤ sls.length by omega)
  rw [missK_none hi, hm] at hr
  exact ⟨r, hr⟩

/-- The answer of Next. -/
def nextV (sls : List Slot) : Value := match missL sls with
  | [] => .tuple ⟨[.int .i64 0, .bool false]⟩
  | k :: _ => .tuple ⟨[.int .i64 k, .bool true]⟩
set_option maxHeartbeats 2000000 in
theorem Next_ok42 (R : Rd) {g : Nat} {h : Hd} {sl : List Sl} (hn : sl.length ≤ 1000000) (r : RcR R g h sl) : Fn Tryd.prog 56 [.pointer (some ⟨g, 0, .none⟩)] [] R
    (fun v hp => v = nextV (sl.map Sl.pl) ∧ hp = []) := by
  obtain ⟨C, cc, gd, gp, hc, hss, hd, hpp, hsl⟩ := r
  have hlen : (sl.map Sl.pl).length = sl.length := List.length_map _
  refine fn_of_vc mixed tabOk Tryd.func56 rfl (by kernel_rfl) (Nat.le_of_ble_eq_true rfl) ?_
  refine ⟨_, .inl (hc 4 _ rfl), ?_⟩
  refine ⟨[none, none, some 2, some 3, some 4, some 5, none, none, none, none, none, none, some 12, some 13, some 14, some 15, some 16, some 17, some 18, some 19, some 20, some 21], [12], Nat, fun i => i ≤ sl.length ∧ missK (sl.map Sl.pl) i = [], fun i => [.int .i64 i], fun _ => [], fun i => sl.length - i, 0, ⟨Nat.zero_le _, rfl⟩, ⟨rfl, trivial⟩, Ent.refl _, ?_⟩
  rintro i ⟨hi, hm⟩ js
  refine ⟨fun hb => ?_, fun hb => ?_⟩
  · replace hb := of_decide_eq_true hb
    have hlt : i < sl.length := by omega
    have hs : sl[i]? = some (sl[i]'hlt) := List.getElem?_eq_getElem hlt
    generalize sl[i]'hlt = s at hs
    have hpl := pl_getD hs
    refine ⟨by omega, by omega, _, rfl, _, .inl (sl_at (n := 0) hd (dv_get hs)), ?_⟩
    cases hA : s.A with
    | none =>
      have hp0 : (sl.map Sl.pl).getD i .none = .none := by rw [hpl]; exact pl_none.2 hA
      repeat (first | (refine ⟨fun h => ?_, fun h => ?_⟩; rotate_left 1; (focus (exfalso; (first | (with_reducible (cases h; done)) | (revert h; simp; done) | (revert h; simp; omega) | (revert h; simp [*]; done)))); clear h) | (refine ⟨fun h => ?_, fun h => ?_⟩; (focus (exfalso; (first | (with_reducible (cases h; done)) | (revert h; simp; done) | (revert h; simp; omega) | (revert h; simp [*]; done)))); clear h))
      intro z hz
      obtain rfl := mul_nat (a := i) (b := 512) (by omega) hz
      clear hz
      refine ⟨_, Ent.refl _, ?_, rfl⟩
      obtain ⟨r, hr⟩ := next_none hm hp0 (by rw [hlen]; exact hlt)
      unfold nextV
      rw [hr]; rfl
    | some a =>
      have hp0 : (sl.map Sl.pl).getD i .none = some (s.d, s.p) := by rw [hpl]; unfold Sl.pl; rw [hA]
      repeat (first | (refine ⟨fun h => ?_, fun h => ?_⟩; rotate_left 1; (focus (exfalso; (first | (with_reducible (cases h; done)) | (revert h; simp; done) | (revert h; simp; omega) | (revert h; simp [*]; done)))); clear h) | (refine ⟨fun h => ?_, fun h => ?_⟩; (focus (exfalso; (first | (with_reducible (cases h; done)) | (revert h; simp; done) | (revert h; simp; omega) | (revert h; simp [*]; done)))); clear h))
      (intro z hz; obtain rfl : z = ((i + 1 : Nat) : Int) := (by first | (rw [IntKind.wrap_i64] at hz; omega) | (rw [IntKind.wrap_u64] at hz; omega) | omega); clear hz)
      exact ⟨rfl, i + 1, ⟨hlt, by rw [missK_some hp0]; exact hm⟩, by show sl.length - (i + 1) < sl.length - i; omega, ⟨rfl, trivial⟩, Ent.refl _, rfl⟩
  · replace hb := of_decide_eq_false hb
    obtain rfl : i = sl.length := by omega
    refine ⟨_, Ent.refl _, ?_, rfl⟩
    have hm : missL (sl.map Sl.pl) = [] := by unfold missL; rw [hlen]; exact hm
    unfold nextV
    rw [hm]; rfl
set_option maxHeartbeats 2000000 in
theorem Missing_ok42 (R : Rd) {g : Nat} {h : Hd} {sl : List Sl} (hn : sl.length ≤ 1000000) (r : RcR R g h sl) : Fn Tryd.prog 26 [.pointer (some ⟨g, 0, .none⟩)] [] R
    (fun v hp => OwnN v (missL (sl.map Sl.pl)) hp) := by
  have hML := maxLen_eq
  obtain ⟨C, cc, gd, gp, hc, hss, hd, hpp, hsl⟩ := r
  have hlen : (sl.map Sl.pl).length = sl.length := List.length_map _
  refine fn_of_vc mixed tabOk Tryd.func26 rfl (by kernel_rfl) (Nat.le_of_ble_eq_true rfl) ?_
  refine ⟨_, .inl (hc 4 _ rfl), ?_⟩
  refine ⟨[none, none, none, some 3, some 4, some 5, none, none, none, none, none, none, some 12, some 13, some 14, some 15, some 16, some 17, some 18, some 19, some 20, some 21, some 22, some 23, some 24], [3, 12], Nat × Option Addr × Nat × Nat × List Value, fun ⟨i, A, n, cap, xs⟩ => i ≤ sl.length ∧ n = (missK (sl.map Sl.pl) i).length ∧ xs = NV (missK (sl.map Sl.pl) i) ∧ grow n A, fun ⟨i, A, n, cap, xs⟩ => [.slice A n cap, .int .i64 i],
    fun ⟨i, A, n, cap, xs⟩ => [.row A n cap 3 1 xs (0, 0)], fun ⟨i, _⟩ => sl.length - i, (0, .none, 0, 0, []), ⟨Nat.zero_le _, rfl, rfl, .inl rfl⟩, ⟨rfl, rfl, trivial⟩, Ent.nilrow [] _ _, ?_⟩
  rintro ⟨i, A, n, cap, xs⟩ ⟨hi, hn1, hx1, hg⟩ js
  have hi : i ≤ sl.length := hi
  have hmk := missK_le (sl.map Sl.pl) i
  refine ⟨fun hb => ?_, fun hb => ?_⟩
  · replace hb := of_decide_eq_true hb
    have hlt : i < sl.length := by omega
    have hs : sl[i]? = some (sl[i]'hlt) := List.getElem?_eq_getElem hlt
    generalize sl[i]'hlt = s at hs
    have hpl := pl_getD hs
    refine ⟨by omega, by omega, _, rfl, _, .inl (sl_at (n := 0) hd (dv_get hs)), ?_⟩
    cases hA : s.A with
    | none =>
      have hp0 : (sl.map Sl.pl).getD i .none = .none := by rw [hpl]; exact pl_none.2 hA
      repeat (first | (refine ⟨fun h => ?_, fun h => ?_⟩; rotate_left 1; (focus (exfalso; (first | (with_reducible (cases h; done)) | (revert h; simp; done) | (revert h; simp; omega) | (revert h; simp [*]; done)))); clear h) | (refine ⟨fun h => ?_, fun h => ?_⟩; (focus (exfalso; (first | (with_reducible (cases h; done)) | (revert h; simp; done) | (revert h; simp; omega) | (revert h; simp [*]; done)))); clear h))
      intro z hz
      obtain rfl := mul_nat (a := i) (b := 512) (by omega) hz
      clear hz
      refine ⟨rfl, fun g1 => ?_⟩
      refine ⟨NV [i * 512], rfl, rdRow 1 rfl, rfl, by show (_ + 1) * 8 ≤ _; omega, by omega, .inr ⟨0, rfl, rfl, rfl, rfl, rfl, rfl, fun A3 cap3 hg3 => ?_⟩⟩
      (intro z hz; obtain rfl : z = ((i + 1 : Nat) : Int) := (by first | (rw [IntKind.wrap_i64] at hz; omega) | (rw [IntKind.wrap_u64] at hz; omega) | omega); clear hz)
      exact ⟨rfl, (i + 1, A3, n + 1, cap3, xs ++ NV [i * 512]), ⟨hlt, by rw [missK_none hp0, List.length_append, hn1]; rfl, by rw [missK_none hp0, NV_append, hx1], hg3⟩, by show sl.length - (i + 1) < sl.length - i; omega, ⟨rfl, rfl, trivial⟩, Ent.pick [0] rfl, rfl⟩
    | some a =>
      have hp0 : (sl.map Sl.pl).getD i .none = some (s.d, s.p) := by rw [hpl]; unfold Sl.pl; rw [hA]
      repeat (first | (refine ⟨fun h => ?_, fun h => ?_⟩; rotate_left 1; (focus (exfalso; (first | (with_reducible (cases h; done)) | (revert h; simp; done) | (revert h; simp; omega) | (revert h; simp [*]; done)))); clear h) | (refine ⟨fun h => ?_, fun h => ?_⟩; (focus (exfalso; (first | (with_reducible (cases h; done)) | (revert h; simp; done) | (revert h; simp; omega) | (revert h; simp [*]; done)))); clear h))
      (intro z hz; obtain rfl : z = ((i + 1 : Nat) : Int) := (by first | (rw [IntKind.wrap_i64] at hz; omega) | (rw [IntKind.wrap_u64] at hz; omega) | omega); clear hz)
      exact ⟨rfl, (i + 1, A, n, cap, xs), ⟨hlt, by rw [missK_some hp0]; exact hn1, by rw [missK_some hp0]; exact hx1, hg⟩, by show sl.length - (i + 1) < sl.length - i; omega, ⟨rfl, rfl, trivial⟩, Ent.refl _, rfl⟩
  · replace hb := of_decide_eq_false hb
    obtain rfl : i = sl.length := by omega
    have hm : missK (sl.map Sl.pl) sl.length = missL (sl.map Sl.pl) := by unfold missL; rw [hlen]; rfl
    rw [hm] at hn1 hx1
    subst hn1 hx1
    exact ⟨_, Ent.refl _, A, cap, rfl, rfl, hg⟩
theorem cat_map_takeS {sl : List Sl} {i : Nat} {s : Sl} (h : sl[i]? = some s) : cat ((sl.map Sl.d).take (i + 1)) = cat ((sl.map Sl.d).take i) ++ s.d := cat_takeS (by rw [List.getElem?_map, h]; rfl)
/-- A piece and an error. -/
def OutPc (p : Pc) (v : Value) (h : Hp) : Prop := ∃ A cap B cb, v = .tuple ⟨[.agg ⟨pcC p (.slice A p.dt.length cap) (.slice B p.sums.length cb)⟩, .int .i64 0]⟩ ∧
    h = [.row A p.dt.length cap 5 1 (BV p.dt) (0, 0), .row B p.sums.length cb 9 1 (SV p.sums) (0, 0)] ∧ grow p.dt.length A ∧ p.dt.length ≤ cap ∧ grow p.sums.length B ∧ p.sums.length ≤ cb
def Pc0 : Pc := ⟨[], 0, [], []⟩
theorem next_yes {sls : List Slot} (hm : missL sls ≠ []) : ∃ k : Nat, nextV sls = .tuple ⟨[.int .i64 k, .bool true]⟩ := by
  unfold nextV
  cases h : missL sls with
  | nil => exact absurd h hm
  | cons k r => exact ⟨k, rfl⟩
set_option maxRecDepth 100000 in
set_option maxHeartbeats 2000000 in
theorem Piece_ok42 (R : Rd) {g : Nat} {h : Hd} {sl : List Sl} (hn : sl.length ≤ 1000000) (hn2 : h.sums.length ≤ 1000) (hc2 : (haveB (sl.map Sl.pl)).length ≤ 100000000000) (r : RcR R g h sl) : Fn Tryd.prog 28 [.pointer (some ⟨g, 0, .none⟩)] [] R
    (fun v hp => (missL (sl.map Sl.pl) ≠ [] ∧ v = .tuple ⟨[.agg ⟨pcC Pc0 (.slice .none 0 0) (.slice .none 0 0)⟩, .int .i64 10]⟩ ∧ hp = []) ∨ (missL (sl.map Sl.pl) = [] ∧ OutPc ⟨h.st, h.ix, haveB (sl.map Sl.pl), h.sums⟩ v hp)) := by
  refine fn_of_vc mixed tabOk Tryd.func28 rfl (by kernel_rfl) (Nat.le_of_ble_eq_true rfl) ?_
  intro g2
  refine ⟨[], _, Next_ok42 _ hn (r.rh _), ?_⟩
  rintro _ _ ⟨rfl, rfl⟩
  by_cases hm : missL (sl.map Sl.pl) = []
  case neg =>
    obtain ⟨k, hk⟩ := next_yes hm
    rw [hk]
    repeat (first | (refine ⟨fun h => ?_, fun h => ?_⟩; rotate_left 1; (focus (exfalso; (first | (with_reducible (cases h; done)) | (revert h; simp; done) | (revert h; simp; omega) | (revert h; simp [*]; done)))); clear h) | (refine ⟨fun h => ?_, fun h => ?_⟩; (focus (exfalso; (first | (with_reducible (cases h; done)) | (revert h; simp; done) | (revert h; simp; omega) | (revert h; simp [*]; done)))); clear h))
    refine ⟨rfl, rfl, 0, rfl, rfl, Nat.le_of_ble_eq_true rfl, ?_⟩
    refine ⟨_, rdOff (o := 0) (n := 4) 0 rfl rfl, rfl, ?_⟩
    exact ⟨_, Ent.nil _, .inl ⟨hm, rfl, rfl⟩⟩
  have hnx : nextV (sl.map Sl.pl) = .tuple ⟨[.int .i64 0, .bool false]⟩ := by unfold nextV; rw [hm]
  rw [hnx]
  repeat (first | (refine ⟨fun h => ?_, fun h => ?_⟩; rotate_left 1; (focus (exfalso; (first | (with_reducible (cases h; done)) | (revert h; simp; done) | (revert h; simp; omega) | (revert h; simp [*]; done)))); clear h) | (refine ⟨fun h => ?_, fun h => ?_⟩; (focus (exfalso; (first | (with_reducible (cases h; done)) | (revert h; simp; done) | (revert h; simp; omega) | (revert h; simp [*]; done)))); clear h))
  have r' := r
  obtain ⟨C, cc, gd, gp, hc, hss, hd, hpp, hsl⟩ := r'
  refine ⟨[], _, clone_ok _ g h _ (by omega) (hc.pre.rh _) (hss.rh _), ?_⟩
  rintro _ _ ⟨C2, cc2, rfl, rfl, hg2, hcc2⟩
  intro g6
  refine ⟨rfl, rfl, 2, rfl, rfl, Nat.le_of_ble_eq_true rfl, ?_⟩
  refine ⟨[2], (.q 0 (.q 1 (.q 2 (.q 3 (.q 4 (.q 5 (.q 6 (.q 8 (.q 9 (.one 7 (.q 10 (.one 11 (.q 12 .nil))))))))))))), by kernel_rfl, ?_⟩
  refine ⟨_, rdOff (o := 0) (n := 2) 0 rfl rfl, rfl, ?_⟩
  refine ⟨_, .inl (hc 4 _ rfl), ?_⟩
  refine ⟨_, ld 0 rfl rfl, ?_⟩
  have hcr : CatR R (.slice (some ⟨gd, 0, .none⟩) sl.length sl.length) (sl.map Sl.d) := by
    refine ⟨sl.map Sl.dv, ⟨by rw [List.length_map, List.length_map, Nat.mul_one], _, _, by rw [List.length_map], fun j u hu => ⟨_, rfl, by rw [add_zero_addr]; exact hd j u hu⟩⟩, by rw [List.length_map, List.length_map], fun i x c hx hcx => ?_⟩
    rw [List.getElem?_map] at hx hcx
    cases hs : sl[i]? with
    | none => rw [hs] at hx; cases hx
    | some s =>
      rw [hs] at hx hcx
      cases hx; cases hcx
      obtain ⟨A, cap, e, _, hb⟩ := (hsl s (List.mem_of_getElem? hs)).1
      exact hb
  have hhv : haveB (sl.map Sl.pl) = cat (sl.map Sl.d) := by unfold haveB; rw [data_pl r]
  rw [hhv] at hc2 ⊢
  refine ⟨[], _, Concat_ok _ (sl.map Sl.d) _ hc2 (by rw [List.length_map]; omega) ((hcr.rh _).rh _), ?_⟩
  rintro _ _ ⟨A1, cap1, rfl, rfl, hg1, hc1⟩
  refine ⟨rfl, rfl, 0, rfl, rfl, Nat.le_of_ble_eq_true rfl, ?_⟩
  refine ⟨_, rdOff (o := 0) (n := 4) 1 rfl rfl, rfl, ?_⟩
  exact ⟨_, Ent.pick [3, 2] rfl, .inr ⟨hm, A1, cap1, C2, cc2, rfl, rfl, hg1, hc1, hg2, hcc2⟩⟩

end Go.Proofs.YtgnmbgbiajgpeaaDoor
