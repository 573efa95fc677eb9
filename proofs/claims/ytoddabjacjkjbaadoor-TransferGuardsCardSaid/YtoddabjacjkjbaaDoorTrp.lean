/-
  Transfer: the encoding of a receiver: plain; the contract of Save.
-/
import Derived.Test.YtoddabjacjkjbaaDoorTrm
namespace Go.Proofs.YtoddabjacjkjbaaDoor
open Go Go.RowKit
set_option linter.unusedVariables false

def partOf (h : Hd) (i : Nat) (x : Str × List Str) : Pt := ⟨h.st, h.ix, ((i * 512 : Nat) : Int), x.1, x.2⟩
/-- The parts that are there. -/
def presK (h : Hd) (sls : List Slot) (k : Nat) : List Pt := (List.range k).flatMap fun i => match sls.getD i .none with
  | .none => []
  | some x => [partOf h i x]
def pres (h : Hd) (sls : List Slot) : List Pt := presK h sls sls.length
theorem presK_succ (h : Hd) (sls : List Slot) (k : Nat) : presK h sls (k + 1) = presK h sls k ++ (match sls.getD k .none with
  | .none => []
  | some x => [partOf h k x]) := by
  unfold presK
  rw [List.range_succ, List.flatMap_append, List.flatMap_singleton]
theorem presK_none {h : Hd} {sls : List Slot} {k : Nat} (e : sls.getD k .none = .none) : presK h sls (k + 1) = presK h sls k := by rw [presK_succ, e, List.append_nil]
theorem presK_some {h : Hd} {sls : List Slot} {k : Nat} {x : Str × List Str} (e : sls.getD k .none = some x) : presK h sls (k + 1) = presK h sls k ++ [partOf h k x] := by rw [presK_succ, e]
theorem pres_miss (h : Hd) (sls : List Slot) : ∀ k, (presK h sls k).length + (missK sls k).length = k
  | 0 => rfl
  | k + 1 => by
    have := pres_miss h sls k
    cases e : sls.getD k .none with
    | none => rw [presK_none e, missK_none e, List.length_append]; show _ + (_ + 1) = _; omega
    | some x => rw [presK_some e, missK_some e, List.length_append]; show _ + 1 + _ = _; omega
theorem presK_congr {h : Hd} {a b : List Slot} : ∀ {k : Nat}, (∀ j, j < k → a.getD j .none = b.getD j .none) → presK h a k = presK h b k
  | 0, _ => rfl
  | k + 1, e => by rw [presK_succ, presK_succ, presK_congr fun j hj => e j (by omega), e k (by omega)]
theorem presK_stop {h : Hd} {sls : List Slot} {i : Nat} (e : ∀ j, i ≤ j → sls.getD j .none = .none) : ∀ n, i ≤ n → presK h sls n = presK h sls i
  | 0, hn => by obtain rfl : i = 0 := by omega
                rfl
  | n + 1, hn => by
    rcases Nat.lt_or_ge i (n + 1) with hi | hi
    · rw [presK_none (e n (by omega)), presK_stop e n (by omega)]
    · obtain rfl : i = n + 1 := by omega
      rfl
theorem getD_set {sls : List Slot} {i j : Nat} {x : Slot} (hi : i < sls.length) : (sls.set i x).getD j .none = if i = j then x else sls.getD j .none := by
  rw [List.getD_eq_getElem?_getD, List.getElem?_set]
  by_cases h : i = j
  · rw [if_pos h, if_pos h, if_pos hi]; rfl
  · rw [if_neg h, if_neg h, List.getD_eq_getElem?_getD]
theorem pres_set {h : Hd} {sls : List Slot} {i : Nat} {x : Str × List Str} (hi : i < sls.length) (e : ∀ j, i ≤ j → sls.getD j .none = .none) : pres h (sls.set i (some x)) = pres h sls ++ [partOf h i x] := by
  unfold pres
  rw [List.length_set, presK_stop e _ (by omega)]
  have e2 : ∀ j, i + 1 ≤ j → (sls.set i (some x)).getD j .none = .none := fun j hj => by rw [getD_set hi, if_neg (by omega)]; exact e j (by omega)
  rw [presK_stop e2 _ hi, presK_some (x := x) (by rw [getD_set hi, if_pos rfl])]
  congr 1
  exact presK_congr fun j hj => by rw [getD_set hi, if_neg (by omega)]

def bodyP (ps : List Pt) : Str := ps.flatMap fun p => num (encP p).length ++ encP p
theorem bodyP_snoc (ps : List Pt) (p : Pt) : bodyP (ps ++ [p]) = bodyP ps ++ (num (encP p).length ++ encP p) := by simp [bodyP]
theorem bodyP_cons (ps : List Pt) (p : Pt) : bodyP (p :: ps) = num (encP p).length ++ (encP p ++ bodyP ps) := by simp [bodyP]
def encR (h : Hd) (ps : List Pt) : Str := num (encH h).length ++ (encH h ++ (num ps.length ++ bodyP ps))
theorem bodyP_le {ps : List Pt} (w : ∀ p ∈ ps, WfP p) : (bodyP ps).length ≤ ps.length * 1300 := by
  induction ps with
  | nil => exact Nat.le_refl _
  | cons p ps ih =>
    have h1 := ih fun q hq => w q (by simp [hq])
    have h2 := encP_le (w p (by simp))
    have h3 := num_le10 (n := (encP p).length) (by omega)
    rw [bodyP_cons, List.length_append, List.length_append, List.length_cons]; omega
theorem bodyP_ge (ps : List Pt) : ps.length ≤ (bodyP ps).length := by
  induction ps with
  | nil => exact Nat.le_refl _
  | cons p ps ih =>
    have h3 := usize_pos (encP p).length
    rw [bodyP_cons, List.length_append, List.length_append, List.length_cons, length_num]; omega
theorem see_wf {h : Hd} (w : WfH h) {i : Nat} {x : Str × List Str} (hs : seeB (h.sums.getD h.ix.toNat []) h.sz 512 (i : Int) x.1 x.2 = true) : WfP (partOf h i x) := by
  obtain ⟨a1, a2, a3, a4, a5, a6, a7, a8⟩ := w
  obtain ⟨n, hn⟩ := Int.eq_ofNat_of_zero_le (show 0 ≤ h.sz by omega)
  rw [hn] at hs a7 a8
  by_cases hc : (1 : Int) ≤ (n : Int) ∧ (1 : Int) ≤ 512 ∧ 0 ≤ (i : Int) ∧ (i : Int) ≤ ((((n : Int).toNat - 1) / (512 : Int).toNat : Nat) : Int)
  case neg => rw [seeB_no hc] at hs; cases hs
  have hi : i ≤ (n - 1) / 512 := by have := hc.2.2.2; rw [Int.toNat_natCast] at this; exact Int.ofNat_le.1 this
  rw [show (512 : Int) = ((512 : Nat) : Int) from rfl, seeB_nat (by omega) (by omega) hi] at hs
  split at hs
  case isFalse => cases hs
  rename_i hl
  obtain ⟨hsm, hup⟩ := verifyB_parts hs
  have hlen := up_length x.2.reverse (leafOf x.1) (List.replicate ((n - 1) / 512 + 1) []) i (by rw [List.length_replicate]; omega) (by rw [List.length_replicate, hup])
  have hb := pathR_bits _ (List.replicate ((n - 1) / 512 + 1) ([] : Str)) i rfl
  rw [List.length_replicate, Nat.add_sub_cancel] at hb
  have hb2 := blen_lt (m := (n - 1) / 512) (k := 7) (by omega)
  rw [List.length_reverse] at hlen
  refine ⟨a4, a5, by show h.ix < 16; omega, ?_, ?_, ?_, ?_, ?_, ?_, hsm⟩
  · show (0 : Int) ≤ ((i * 512 : Nat) : Int); omega
  · show ((i * 512 : Nat) : Int) ≤ 65024; omega
  · show ((i * 512 : Nat) : Int).toNat % 512 = 0; rw [Int.toNat_natCast]; omega
  · show 1 ≤ x.1.length; omega
  · show x.1.length ≤ 512; omega
  · show x.2.length ≤ 16; omega
theorem presK_wf {h : Hd} {sls : List Slot} (g : GoodR h sls) {k : Nat} : ∀ p ∈ presK h sls k, WfP p := fun p hp => by
  obtain ⟨i, _, hp⟩ := List.mem_flatMap.1 hp
  cases e : sls.getD i .none with
  | none => rw [e] at hp; cases hp
  | some x =>
    rw [e] at hp
    obtain rfl := List.mem_singleton.1 hp
    refine see_wf g.wf (g.see i x.1 x.2 ?_)
    rw [List.getD_eq_getElem?_getD] at e
    cases h2 : sls[i]? with
    | none => rw [h2] at e; cases e
    | some y => rw [h2] at e; obtain rfl : y = some x := e; rfl
theorem presK_len (h : Hd) (sls : List Slot) (k : Nat) : (presK h sls k).length ≤ k := by have := pres_miss h sls k; omega

set_option maxRecDepth 100000 in
set_option maxHeartbeats 8000000 in
theorem Save_ok0 (R : Rd) {g : Nat} {h : Hd} {sl : List Sl} (gd0 : GoodR h (sl.map Sl.pl)) (r : RcR R g h sl) : Fn Tryd.prog 40 [.pointer (some ⟨g, 0, .none⟩)] [] R
    (fun v hp => ∃ A cap, v = .slice A (encR h (pres h (sl.map Sl.pl))).length cap ∧ hp = [.row A (encR h (pres h (sl.map Sl.pl))).length cap 5 1 (BV (encR h (pres h (sl.map Sl.pl)))) (0, 0)] ∧ grow (encR h (pres h (sl.map Sl.pl))).length A) := by
  have r' := r
  obtain ⟨C, cc, gdd, gp, hc, hss, hd, hpp, hsl⟩ := r'
  have hlen : (sl.map Sl.pl).length = sl.length := List.length_map _
  have hsz := gd0.len
  rw [hlen] at hsz
  have hsl128 : sl.length ≤ 128 := by have := gd0.wf.s1; rw [hsz]; unfold partsN; omega
  have hwf := gd0.wf
  have hle := encH_le hwf
  have hnum := num_le10 (n := (encH h).length) (by omega)
  have hpm := pres_miss h (sl.map Sl.pl) sl.length
  have hps : presK h (sl.map Sl.pl) sl.length = pres h (sl.map Sl.pl) := by unfold pres; rw [hlen]
  have hms : missK (sl.map Sl.pl) sl.length = missL (sl.map Sl.pl) := by unfold missL; rw [hlen]; rfl
  rw [hps, hms] at hpm
  have hpw := fun k => bodyP_le (presK_wf gd0 (k := k))
  have hpl := fun k => presK_len h (sl.map Sl.pl) k
  generalize hps2 : pres h (sl.map Sl.pl) = ps at *
  refine fn_of_vc mixed tabOk Tryd.func40 rfl (by kernel_rfl) (Nat.le_of_ble_eq_true rfl) ?_
  refine ⟨_, (hc.rh _).rd 0 4 rfl, rfl, ?_⟩
  refine ⟨[], _, EncodeHead_ok _ h _ (hss.rh _), ?_⟩
  have e0 : encHo h = encH h := if_pos hwf
  rw [e0]
  rintro _ _ ⟨A1, cap1, rfl, rfl, hg1, hc1⟩
  refine ⟨[], _, NewWriter_ok _, ?_⟩
  rintro _ _ ⟨gw, rfl, A, k, cap, xs, rfl, hk, hx, hg⟩
  refine ⟨[1, 1], _, WBytes_ok _ gw [] 0 _ _ (encH h) (by simp only [List.length_nil]; omega) ⟨A, k, cap, xs, rfl, hk, hx, hg⟩ (SlR.own 0 rfl (by rw [BV_length, Nat.mul_one]) hg1), ?_⟩
  clear hk hx hg
  rw [if_pos rfl, List.nil_append]
  rintro _ _ ⟨A, k, cap, xs, rfl, hk, hx, hg⟩
  refine ⟨[], (.q 0 (.q 1 (.q 2 (.q 3 (.q 4 (.q 5 (.q 6 (.one 7 (.q 8 (.q 9 (.one 10 .nil))))))))))), by kernel_rfl, ?_⟩
  refine ⟨_, .inl (hc 4 _ rfl), ?_⟩
  refine ⟨[], _, Missing_ok42 _ (by omega) ((r.rh _).rh _), ?_⟩
  rintro _ _ ⟨MA, mc, rfl, rfl, hgM⟩
  (intro z hz; obtain rfl : z = ((ps.length : Nat) : Int) := (by first | (rw [IntKind.wrap_i64] at hz; omega) | (rw [IntKind.wrap_u64] at hz; omega) | omega); clear hz)
  refine ⟨[1, 1], _, WCount_ok _ gw (num (encH h).length ++ encH h) 0 _ ps.length (by omega) (by rw [List.length_append]; omega) ⟨A, k, cap, xs, rfl, hk, hx, hg⟩, ?_⟩
  clear hk hx hg
  rw [if_pos ⟨rfl, by omega⟩, if_neg (by omega), Int.toNat_natCast]
  rintro _ _ ⟨A, k, cap, xs, rfl, hk, hx, hg⟩
  have hb0 : ∀ j, (num (encH h).length ++ encH h ++ num ps.length ++ bodyP (presK h (sl.map Sl.pl) j)).length ≤ 200000 ∨ 128 < j := fun j => by
    rcases Nat.lt_or_ge 128 j with hj | hj
    · exact .inr hj
    · left
      have h1 := hpw j
      have h2 := hpl j
      have h3 := num_le10 (n := ps.length) (by omega)
      simp only [List.length_append]; omega
  refine ⟨_, .inl (hc 4 _ rfl), ?_⟩
  refine ⟨[none, none, none, none, none, none, none, some 7, some 8, some 9, some 10, none, none, none, none, none, none, none, none, none, none, none, none, none, none, none, none, none, none, none, none, none, none, none, none, none, none, none, none, none, none, none, none, none, some 44, some 45, some 46, some 47, some 48, some 49, some 50, some 51, some 52, some 53, some 54, some 55, some 56, some 57, some 58, some 59, some 60, some 61, some 62, some 63, some 64, some 65, some 66, some 67, some 68, some 69, some 70, some 71, some 72, some 73, some 74], [44], Nat × (Option Addr × Nat × Nat × List Value), fun ⟨i, (A, k, cap, xs)⟩ => i ≤ sl.length ∧ k = (num (encH h).length ++ encH h ++ num ps.length ++ bodyP (presK h (sl.map Sl.pl) i)).length ∧ xs = BV (num (encH h).length ++ encH h ++ num ps.length ++ bodyP (presK h (sl.map Sl.pl) i)) ∧ grow k A,
    fun ⟨i, _⟩ => [.int .i64 i], fun ⟨i, (A, k, cap, xs)⟩ => [.blk gw 217 [.slice A k cap, .int .i64 0], .row A k cap 5 1 xs (0, 0)], fun ⟨i, _⟩ => sl.length - i,
    (0, (A, k, cap, xs)), ⟨Nat.zero_le _, by show k = (_ ++ bodyP []).length; rw [show bodyP [] = [] from rfl, List.append_nil]; exact hk, by show xs = BV (_ ++ bodyP []); rw [show bodyP [] = [] from rfl, List.append_nil]; exact hx, hg⟩, ⟨rfl, trivial⟩, Ent.pick [2, 2] rfl, ?_⟩
  clear hk hx hg
  rintro ⟨i, ⟨A, k, cap, xs⟩⟩ ⟨hi, hk, hx, hg⟩ js
  have hi : i ≤ sl.length := hi
  have hbi := (hb0 i).resolve_right (by omega)
  refine ⟨fun hb => ?_, fun hb => ?_⟩
  · replace hb := of_decide_eq_true hb
    have hlt : i < sl.length := by omega
    have hs : sl[i]? = some (sl[i]'hlt) := List.getElem?_eq_getElem hlt
    generalize sl[i]'hlt = s at hs
    have hpl2 := pl_getD hs
    obtain ⟨hsd, hsp, hsn⟩ := hsl s (List.mem_of_getElem? hs)
    refine ⟨by omega, by omega, _, rfl, _, .inl (sl_at (n := 0) hd (dv_get hs)), ?_⟩
    cases hA : s.A with
    | none =>
      have hp0 : (sl.map Sl.pl).getD i .none = .none := by rw [hpl2]; exact pl_none.2 hA
      repeat (first | (refine ⟨fun h => ?_, fun h => ?_⟩; rotate_left 1; (focus (exfalso; (first | (with_reducible (cases h; done)) | (revert h; simp; done) | (revert h; simp; omega) | (revert h; simp [*]; done)))); clear h) | (refine ⟨fun h => ?_, fun h => ?_⟩; (focus (exfalso; (first | (with_reducible (cases h; done)) | (revert h; simp; done) | (revert h; simp; omega) | (revert h; simp [*]; done)))); clear h))
      (intro z hz; obtain rfl : z = ((i + 1 : Nat) : Int) := (by first | (rw [IntKind.wrap_i64] at hz; omega) | (rw [IntKind.wrap_u64] at hz; omega) | omega); clear hz)
      exact ⟨rfl, (i + 1, (A, k, cap, xs)), ⟨hlt, by rw [presK_none hp0]; exact hk, by rw [presK_none hp0]; exact hx, hg⟩, by show sl.length - (i + 1) < sl.length - i; omega, ⟨rfl, trivial⟩, Ent.refl _, rfl⟩
    | some a =>
      have hp0 : (sl.map Sl.pl).getD i .none = some (s.d, s.p) := by rw [hpl2]; unfold Sl.pl; rw [hA]
      have hget : (sl.map Sl.pl)[i]? = some (some (s.d, s.p)) := by rw [List.getElem?_map, hs]; show some s.pl = _; unfold Sl.pl; rw [hA]
      have hpw1 : WfP (partOf h i (s.d, s.p)) := see_wf gd0.wf (gd0.see i s.d s.p hget)
      have hple := encP_le hpw1
      have hpn := num_le10 (n := (encP (partOf h i (s.d, s.p))).length) (by omega)
      repeat (first | (refine ⟨fun h => ?_, fun h => ?_⟩; rotate_left 1; (focus (exfalso; (first | (with_reducible (cases h; done)) | (revert h; simp; done) | (revert h; simp; omega) | (revert h; simp [*]; done)))); clear h) | (refine ⟨fun h => ?_, fun h => ?_⟩; (focus (exfalso; (first | (with_reducible (cases h; done)) | (revert h; simp; done) | (revert h; simp; omega) | (revert h; simp [*]; done)))); clear h))
      refine ⟨[], (.q 0 (.q 1 (.q 2 (.q 3 (.q 4 (.q 5 (.q 6 (.q 7 (.q 8 (.q 9 (.q 10 (.q 11 (.q 12 (.q 13 (.q 14 (.q 15 (.one 16 (.q 17 (.q 18 (.q 19 (.q 20 (.q 21 .nil)))))))))))))))))))))), by kernel_rfl, ?_⟩
      refine ⟨_, ((hc.rh _).rd 0 2 rfl), rfl, ?_⟩
      intro z hz
      obtain rfl := mul_nat (a := i) (b := 512) (by omega) hz
      clear hz
      refine ⟨_, .inl (hc 5 _ rfl), ?_⟩
      refine ⟨by omega, by omega, _, rfl, ?_⟩
      refine ⟨_, .inl (sl_at (n := 0) hpp (pv_get hs)), ?_⟩
      refine ⟨[], _, EncodePart_ok _ (partOf h i (s.d, s.p)) s.dv s.pv ((hsd.rh _).rh _) ((hsp.rh _).rh _), ?_⟩
      rw [show encPo (partOf h i (s.d, s.p)) = encP (partOf h i (s.d, s.p)) from if_pos hpw1]
      rintro _ _ ⟨A2, cap2, rfl, rfl, hg2, hc2⟩
      refine ⟨[0, 0], _, WBytes_ok _ gw _ 0 _ _ (encP (partOf h i (s.d, s.p))) (by omega) ⟨A, k, cap, xs, rfl, hk, hx, hg⟩ (SlR.own 0 rfl (by rw [BV_length, Nat.mul_one]) hg2), ?_⟩
      clear hk hx hg
      rw [if_pos rfl]
      rintro _ _ ⟨A, k, cap, xs, rfl, hk, hx, hg⟩
      (intro z hz; obtain rfl : z = ((i + 1 : Nat) : Int) := (by first | (rw [IntKind.wrap_i64] at hz; omega) | (rw [IntKind.wrap_u64] at hz; omega) | omega); clear hz)
      have e3 : num (encH h).length ++ encH h ++ num ps.length ++ bodyP (presK h (sl.map Sl.pl) (i + 1)) = num (encH h).length ++ encH h ++ num ps.length ++ bodyP (presK h (sl.map Sl.pl) i) ++ num (encP (partOf h i (s.d, s.p))).length ++ encP (partOf h i (s.d, s.p)) := by
        rw [presK_some hp0, bodyP_snoc]; simp only [List.append_assoc]
      exact ⟨rfl, (i + 1, (A, k, cap, xs)), ⟨hlt, by rw [e3]; exact hk, by rw [e3]; exact hx, hg⟩, by show sl.length - (i + 1) < sl.length - i; omega, ⟨rfl, trivial⟩, Ent.pick [1, 1] rfl, rfl⟩
  · replace hb := of_decide_eq_false hb
    obtain rfl : i = sl.length := by omega
    rw [hps] at hk hx hbi
    have eR : num (encH h).length ++ encH h ++ num ps.length ++ bodyP ps = encR h ps := by unfold encR; simp only [List.append_assoc]
    rw [eR] at hk hx hbi
    refine ⟨[0, 0], _, WDone_ok _ gw (encR h ps) 0 _ ⟨A, k, cap, xs, rfl, hk, hx, hg⟩, ?_⟩
    clear hk hx hg
    rintro _ _ ⟨sl0, hw, hs0, rfl, rfl, ⟨A, k, cap, xs, rfl, -, -, -⟩, ⟨A2, k2, cap2, xs2, rfl, rfl, hk2, hx2, hg2⟩⟩
    have e1 : doneB (encR h ps) 0 = encR h ps := by rw [doneB, if_pos ⟨rfl, by omega⟩]
    rw [e1] at hk2 hx2
    subst hk2 hx2
    exact ⟨_, Ent.pick [2] rfl, A2, cap2, rfl, rfl, hg2⟩
theorem Save_ok (R : Rd) {g : Nat} {h : Hd} {sl : List Sl} (gd0 : GoodR h (sl.map Sl.pl)) (r : RcR R g h sl) : Fn Tryd.prog 40 [.pointer (some ⟨g, 0, .none⟩)] [] R (OwnBl · (encR h (pres h (sl.map Sl.pl))) ·) := by
  refine Fn.post (Save_ok0 R gd0 r) ?_
  rintro _ _ w ⟨A', cap', rfl, rfl, hg⟩ o
  exact ⟨A', cap', rfl, rfl, hg, (row_cap o 0 rfl).1⟩

end Go.Proofs.YtoddabjacjkjbaaDoor
