/-
  Transfer: Resume's contract.
-/
import Derived.Test.YtnifppnpplgghaaGreatDoorTrt
namespace Go.Proofs.YtnifppnpplgghaaGreatDoor
open Go Go.RowKit
set_option linter.unusedVariables false

attribute [local irreducible] qB qs1 qs2 qC qN qV lft hV pV
theorem pa_off {R : Rd} {h : Hp} (i : Nat) {q n cap : Nat} {l : List PA} {e : TypeId} (hi : h[i]? = some (.row (some ⟨q, 0, .none⟩) n cap e 5 (paC l) (0, 0))) {j : Nat} {x : PA} (hx : l[j]? = some x) : RH R h (addA (addA (⟨q, 0, .none⟩ : Addr) (Int.toNat (j : Int) * 5)) 2) (.int .i64 x.p.off) := by
  have := pa_rd (R := R) i hi hx 2 _ rfl
  rwa [addA_eq] at this
set_option maxRecDepth 100000 in
set_option maxHeartbeats 16000000 in
theorem Resume_ok (R : Rd) (hG : ShaG R) (d : Str) (v : Value) (hd : d.length ≤ 200000) (hb : BsR R v d) : Fn Tryz.prog 42 [v] [] R (ResOut d) := by
  have hML := maxLen_eq
  have hd9 : d.length ≤ 1000000000 := by omega
  have o1 : (qs1 d).1 ≤ d.length := qs1_le
  have o2 : (qs2 d).1 ≤ d.length := qs2_le
  have hqB : (qB d).length ≤ 1000000000 := qB_le hd9
  have hqC : qC d ≤ 1000000000 := qC_le hd9
  have hqV : ∀ k, (qV d (qs2 d) k).length ≤ 1000000000 := fun k => qV_le hd9
  refine fn_of_vc mixed tabOk Tryz.func42 rfl (by kernel_rfl) (Nat.le_of_ble_eq_true rfl) ?_
  refine ⟨[], _, NewReader_ok _ _ d (by omega) (hb.rh _), ?_⟩
  rintro _ _ ⟨gr, rfl, A, k, cap, xs, rfl, hk, hx, hg⟩
  refine ⟨[0, 0], _, RLt42 (s := s00) _ (Nat.zero_le _) hd9 ⟨A, k, cap, xs, rfl, hk, hx, hg⟩, ?_⟩
  clear hk hx hg
  rintro _ _ ⟨rfl, A, k, cap, xs, rfl, hk, hx, hg⟩
  refine ⟨[0, 0], _, BY0 _ hd9 ⟨A, k, cap, xs, rfl, hk, hx, hg⟩, ?_⟩
  clear hk hx hg
  rintro _ _ ⟨_, _, rfl, ⟨D, cd, rfl, rfl, hgd, hcd⟩, A, k, cap, xs, rfl, hk, hx, hg⟩
  refine ⟨[], _, DecodeHead_ok _ (qB d) _ hqB (SlR.own 2 rfl (by rw [BV_length, Nat.mul_one]) hgd), ?_⟩
  rintro _ _ (⟨hno, rfl, rfl⟩ | ⟨hok, S, cs, rfl, rfl, hgs, hcs⟩)
  · intro g5
    refine ⟨rfl, rfl, 3, rfl, rfl, Nat.le_of_ble_eq_true rfl, ?_⟩
    repeat (first | (refine ⟨fun h => ?_, fun h => ?_⟩; rotate_left 1; (focus (exfalso; (first | (with_reducible (cases h; done)) | (revert h; simp; done) | (revert h; simp; omega) | (revert h; simp [*]; done)))); clear h) | (refine ⟨fun h => ?_, fun h => ?_⟩; (focus (exfalso; (first | (with_reducible (cases h; done)) | (revert h; simp; done) | (revert h; simp; omega) | (revert h; simp [*]; done)))); clear h))
    exact ⟨_, Ent.nil _, .inl ⟨fun h => hno h.hd, rfl, rfl⟩⟩
  intro g5
  refine ⟨rfl, rfl, 4, rfl, rfl, Nat.le_of_ble_eq_true rfl, ?_⟩
  repeat (first | (refine ⟨fun h => ?_, fun h => ?_⟩; rotate_left 1; (focus (exfalso; (first | (with_reducible (cases h; done)) | (revert h; simp; done) | (revert h; simp; omega) | (revert h; simp [*]; done)))); clear h) | (refine ⟨fun h => ?_, fun h => ?_⟩; (focus (exfalso; (first | (with_reducible (cases h; done)) | (revert h; simp; done) | (revert h; simp; omega) | (revert h; simp [*]; done)))); clear h))
  refine ⟨[0, 0], _, RLt42 (s := qs1 d) _ o1 hd9 ⟨A, k, cap, xs, rfl, hk, hx, hg⟩, ?_⟩
  clear hk hx hg
  rintro _ _ ⟨rfl, A, k, cap, xs, rfl, hk, hx, hg⟩
  refine ⟨[3, 3], _, CT1 _ o1 hd9 ⟨A, k, cap, xs, rfl, hk, hx, hg⟩, ?_⟩
  clear hk hx hg
  rintro _ _ ⟨rfl, A, k, cap, xs, rfl, hk, hx, hg⟩
  refine ⟨[none, none, some 2, some 3, none, none, none, some 7, some 8, some 9, none, none, none, none, none, none, none, none, none, none, none, none, none, none, none, none, none, none, none, none, none, none, none, some 33, some 34, some 35, some 36, some 37, some 38, some 39, some 40, some 41, some 42, some 43, some 44, some 45, some 46, some 47, some 48, some 49], [7, 33], Nat × (Option Addr × Nat × Nat × List Value) × (List PA × Option Addr × Nat × Nat × List Value),
    fun ⟨i, (A, k, cap, xs), (l, P, pn, pc, ys)⟩ => i ≤ qC d ∧ (k = d.length ∧ xs = BV d ∧ grow k A) ∧ l.map PA.p = psR d i ∧ (∀ x ∈ l, PaOk x) ∧ (∀ j, j < i → okP (qV d (qs2 d) j)) ∧ pn = l.length ∧ ys = paC l ∧ grow pn P,
    fun ⟨i, _, (l, P, pn, pc, ys)⟩ => [.slice P pn pc, .int .i64 i],
    fun ⟨i, (A, k, cap, xs), (l, P, pn, pc, ys)⟩ => [.blk gr 152 [.slice A k cap, .int .i64 (qN d (qs2 d) i).1, .int .i64 (qN d (qs2 d) i).2.1, .int .i64 (qN d (qs2 d) i).2.2], .row A k cap 5 1 xs (0, 0),
      .row S (hV (qB d) s00).sums.length cs 9 1 (SV (hV (qB d) s00).sums) (0, 0), .blk g5 26 (hdC (hV (qB d) s00) (.slice S (hV (qB d) s00).sums.length cs)), .row P pn pc 43 5 ys (0, 0), .rows (paR l)],
    fun ⟨i, _⟩ => qC d - i, (0, (A, k, cap, xs), ([], .none, 0, 0, [])), ⟨Nat.zero_le _, ⟨hk, hx, hg⟩, rfl, (fun x hx => by cases hx), (fun j hj => by omega), rfl, rfl, .inl rfl⟩, ⟨rfl, rfl, trivial⟩, ?_, ?_⟩
  · simp only [qN_zero]
    refine Ent.trans (b := [.blk gr 152 [.slice A k cap, .int .i64 (qs2 d).1, .int .i64 (qs2 d).2.1, .int .i64 (qs2 d).2.2], .row A k cap 5 1 xs (0, 0),
      .row S (hV (qB d) s00).sums.length cs 9 1 (SV (hV (qB d) s00).sums) (0, 0), .blk g5 26 (hdC (hV (qB d) s00) (.slice S (hV (qB d) s00).sums.length cs))]) (Ent.pick [3, 3, 1, 1] rfl) ?_
    refine Ent.trans (Ent.nilrow _ 43 5) ?_
    exact rows_null (fun r hr => by cases hr)
  clear hk hx hg
  rintro ⟨i, ⟨A, k, cap, xs⟩, ⟨l, P, pn, pc, ys⟩⟩ ⟨hi, ⟨hk, hx, hg⟩, hl, hpa, hokj, hpn, hys, hgP⟩ js
  have hi : i ≤ qC d := hi
  have hll : l.length = i := by have := congrArg List.length hl; rwa [List.length_map, psR_length] at this
  refine ⟨fun hb => ?_, fun hb => ?_⟩
  · replace hb := of_decide_eq_true hb
    have hlt : i < qC d := by omega
    refine ⟨[0, 0], _, RLt42 (s := qN d (qs2 d) i) _ (qN_le o2 i) hd9 ⟨A, k, cap, xs, rfl, hk, hx, hg⟩, ?_⟩
    clear hk hx hg
    rintro _ _ ⟨rfl, A, k, cap, xs, rfl, hk, hx, hg⟩
    refine ⟨[4, 4], _, BYi _ i o2 hd9 ⟨A, k, cap, xs, rfl, hk, hx, hg⟩, ?_⟩
    clear hk hx hg
    rintro _ _ ⟨_, _, rfl, ⟨D2, cd2, rfl, rfl, hgd2, hcd2⟩, A, k, cap, xs, rfl, hk, hx, hg⟩
    refine ⟨[], _, DecodePart_ok _ (qV d (qs2 d) i) _ (hqV i) (SlR.own 6 rfl (by rw [BV_length, Nat.mul_one]) hgd2), ?_⟩
    rintro _ _ (⟨hno, rfl, rfl⟩ | ⟨hokp, E, ce, F, cf, rfl, rfl, hgE, hcE, hgF, hcF⟩)
    · intro g8
      refine ⟨rfl, rfl, 7, rfl, rfl, Nat.le_of_ble_eq_true rfl, ?_⟩
      repeat (first | (refine ⟨fun h => ?_, fun h => ?_⟩; rotate_left 1; (focus (exfalso; (first | (with_reducible (cases h; done)) | (revert h; simp; done) | (revert h; simp; omega) | (revert h; simp [*]; done)))); clear h) | (refine ⟨fun h => ?_, fun h => ?_⟩; (focus (exfalso; (first | (with_reducible (cases h; done)) | (revert h; simp; done) | (revert h; simp; omega) | (revert h; simp [*]; done)))); clear h))
      exact ⟨_, Ent.nil _, .inl ⟨fun h => hno (h.pt i hlt), rfl, rfl⟩⟩
    intro g8
    refine ⟨rfl, rfl, 9, rfl, rfl, Nat.le_of_ble_eq_true rfl, ?_⟩
    repeat (first | (refine ⟨fun h => ?_, fun h => ?_⟩; rotate_left 1; (focus (exfalso; (first | (with_reducible (cases h; done)) | (revert h; simp; done) | (revert h; simp; omega) | (revert h; simp [*]; done)))); clear h) | (refine ⟨fun h => ?_, fun h => ?_⟩; (focus (exfalso; (first | (with_reducible (cases h; done)) | (revert h; simp; done) | (revert h; simp; omega) | (revert h; simp [*]; done)))); clear h))
    refine ⟨_, rdOff (o := 0) (n := 5) 9 rfl rfl, rfl, ?_⟩
    refine ⟨rfl, fun g9 => ?_⟩
    refine ⟨paC [⟨pV (qV d (qs2 d) i) s00, E, ce, F, cf⟩], rfl, slr_src (SlR.own 10 rfl rfl (.inr ⟨g9, rfl⟩)), rfl, by show (_ + 1) * 80 ≤ _; omega, by omega, .inr ⟨2, rfl, rfl, rfl, rfl, rfl, rfl, fun P' pc' hg' => ?_⟩⟩
    (intro z hz; obtain rfl : z = ((i + 1 : Nat) : Int) := (by first | (rw [IntKind.wrap_i64] at hz; omega) | (rw [IntKind.wrap_u64] at hz; omega) | omega); clear hz)
    refine ⟨rfl, (i + 1, (A, k, cap, xs), (l ++ [⟨pV (qV d (qs2 d) i) s00, E, ce, F, cf⟩], P', pn + 1, pc', ys ++ paC [⟨pV (qV d (qs2 d) i) s00, E, ce, F, cf⟩])), ⟨hlt, ⟨hk, hx, hg⟩, by rw [List.map_append, hl, psR_succ]; rfl, fun x hx => ?_, fun j hj => ?_, by rw [List.length_append, hpn]; rfl, by rw [paC_app, hys], hg'⟩, by show qC d - (i + 1) < qC d - i; omega, ⟨rfl, rfl, trivial⟩, ?_, rfl⟩
    · rcases List.mem_append.1 hx with hx | hx
      · exact hpa x hx
      · rw [List.mem_singleton.1 hx]; exact ⟨hgE, hgF, hcE, hcF⟩
    · rcases Nat.lt_or_ge j i with h | h
      · exact hokj j h
      · obtain rfl : j = i := by omega
        exact hokp
    · refine Ent.trans (b := ([.blk gr 152 [.slice A k cap, .int .i64 (qN d (qs2 d) (i + 1)).1, .int .i64 (qN d (qs2 d) (i + 1)).2.1, .int .i64 (qN d (qs2 d) (i + 1)).2.2], .row A k cap 5 1 xs (0, 0),
        .row S (hV (qB d) s00).sums.length cs 9 1 (SV (hV (qB d) s00).sums) (0, 0), .blk g5 26 (hdC (hV (qB d) s00) (.slice S (hV (qB d) s00).sums.length cs)), .row P' (pn + 1) pc' 43 5 (ys ++ paC [⟨pV (qV d (qs2 d) i) s00, E, ce, F, cf⟩]) (0, 0)] : Hp) ++
        ([.rows (paR l), (PA.r1 ⟨pV (qV d (qs2 d) i) s00, E, ce, F, cf⟩).ha, (PA.r2 ⟨pV (qV d (qs2 d) i) s00, E, ce, F, cf⟩).ha] : Hp)) ?_ (Ent.app (Ent.refl _) (pa_add l _))
      exact Ent.pick [4, 4, 0, 0, 0, 0, 1, 1] rfl
  · replace hb := of_decide_eq_false hb
    obtain rfl : i = qC d := by omega
    refine ⟨[0, 0], _, REnd_ok _ gr d (qN d (qs2 d) (qC d)).1 (qN d (qs2 d) (qC d)).2.1 (qN d (qs2 d) (qC d)).2.2 _ ⟨A, k, cap, xs, rfl, hk, hx, hg⟩, ?_⟩
    clear hk hx hg
    rintro _ _ ⟨rfl, A, k, cap, xs, rfl, hk, hx, hg⟩
    by_cases he : endE d (qN d (qs2 d) (qC d)).1 (qN d (qs2 d) (qC d)).2.2 = 0
    case neg =>
      have hno : ¬ OkR d := fun h => he h.en
      generalize endE d (qN d (qs2 d) (qC d)).1 (qN d (qs2 d) (qC d)).2.2 = e at he
      repeat (first | (refine ⟨fun h => ?_, fun h => ?_⟩; rotate_left 1; (focus (exfalso; (first | (with_reducible (cases h; done)) | (revert h; simp; done) | (revert h; simp; omega) | (revert h; simp [*]; done)))); clear h) | (refine ⟨fun h => ?_, fun h => ?_⟩; (focus (exfalso; (first | (with_reducible (cases h; done)) | (revert h; simp; done) | (revert h; simp; omega) | (revert h; simp [*]; done)))); clear h))
      exact ⟨_, Ent.nil _, .inl ⟨hno, rfl, rfl⟩⟩
    have OK : OkR d := ⟨hok, hokj, he⟩
    rw [he]
    repeat (first | (refine ⟨fun h => ?_, fun h => ?_⟩; rotate_left 1; (focus (exfalso; (first | (with_reducible (cases h; done)) | (revert h; simp; done) | (revert h; simp; omega) | (revert h; simp [*]; done)))); clear h) | (refine ⟨fun h => ?_, fun h => ?_⟩; (focus (exfalso; (first | (with_reducible (cases h; done)) | (revert h; simp; done) | (revert h; simp; omega) | (revert h; simp [*]; done)))); clear h))
    have hw : ∀ x ∈ l, WfP x.p := fun x hx => (okR_enc OK).2.2 _ (by rw [← hl]; exact List.mem_map.2 ⟨x, hx, rfl⟩)
    refine ⟨_, rdOff (o := 0) (n := 4) 1 rfl rfl, rfl, ?_⟩
    have hq : hV (qB d) s00 = hR d := by with_unfolding_all rfl
    rw [hq] at hgs hcs ⊢
    refine ⟨[], _, NewReceiver_ok _ (hG.rh _) (hR d) (.slice S (hR d).sums.length cs) (ss_own 0 rfl hgs hcs), ?_⟩
    rintro _ _ (⟨hnw, rfl, rfl⟩ | ⟨hwf, hroot, rfl, rfl⟩ | ⟨hwf, hroot, gn, rfl, C, cc, gdd, gp, sl, hgC, hcC, okS, hsl, rfl⟩)
    · exact absurd (okR_enc OK).2.1 hnw
    · have hE := res_root (ps := psR d (qC d)) hroot
      repeat (first | (refine ⟨fun h => ?_, fun h => ?_⟩; rotate_left 1; (focus (exfalso; (first | (with_reducible (cases h; done)) | (revert h; simp; done) | (revert h; simp; omega) | (revert h; simp [*]; done)))); clear h) | (refine ⟨fun h => ?_, fun h => ?_⟩; (focus (exfalso; (first | (with_reducible (cases h; done)) | (revert h; simp; done) | (revert h; simp; omega) | (revert h; simp [*]; done)))); clear h))
      exact ⟨_, Ent.nil _, .inr (.inl ⟨OK, by rw [hE]; decide, by rw [hE]; rfl, rfl⟩)⟩
    repeat (first | (refine ⟨fun h => ?_, fun h => ?_⟩; rotate_left 1; (focus (exfalso; (first | (with_reducible (cases h; done)) | (revert h; simp; done) | (revert h; simp; omega) | (revert h; simp [*]; done)))); clear h) | (refine ⟨fun h => ?_, fun h => ?_⟩; (focus (exfalso; (first | (with_reducible (cases h; done)) | (revert h; simp; done) | (revert h; simp; omega) | (revert h; simp [*]; done)))); clear h))
    subst hpn hys
    have hpl : (psR d (qC d)).length = l.length := by rw [psR_length, hll]
    refine ⟨[none, none, some 2, some 3, none, none, none, none, none, none, none, none, none, none, some 14, some 15, none, none, none, none, none, none, none, none, none, none, none, none, none, none, none, none, none, none, none, none, none, none, none, none, none, none, none, none, none, none, none, none, none, none, none, none, none, none, none, none, none, none, none, none, none, none, none, none, none, none, none, some 67, some 68, some 69, some 70, some 71, some 72, some 73, some 74, some 75, some 76, some 77], [67], Nat × (Option Addr × Nat × Nat × Nat × List Sl),
      fun ⟨j, (C, cc, gdd, gp, sl)⟩ => j ≤ l.length ∧ (grow (hR d).sums.length C ∧ (hR d).sums.length ≤ cc ∧ (∀ s ∈ sl, SlOk s)) ∧ GoodR (hR d) (sl.map Sl.pl) ∧
        recAll (hR d) (List.replicate (partsN (hR d).sz.toNat) .none) (psR d (qC d)) = recAll (hR d) (sl.map Sl.pl) ((psR d (qC d)).drop j),
      fun ⟨j, _⟩ => [.int .i64 j],
      fun ⟨j, (C, cc, gdd, gp, sl)⟩ => [.row P l.length pc 43 5 (paC l) (0, 0), .rows (paR l), .blk gn 96 (rcC (hR d) C cc gdd gp sl.length), .row C (hR d).sums.length cc 9 1 (SV (hR d).sums) (0, 0),
        .row (some ⟨gdd, 0, .none⟩) sl.length sl.length 41 1 (sl.map Sl.dv) (0, 0), .row (some ⟨gp, 0, .none⟩) sl.length sl.length 24 1 (sl.map Sl.pv) (0, 0), .rows (rowsS sl)],
      fun ⟨j, _⟩ => l.length - j, (0, (C, cc, gdd, gp, sl)), ⟨Nat.zero_le _, ⟨hgC, hcC, okS⟩, by rw [hsl]; exact GoodR.new hwf hroot, by rw [hsl]; rfl⟩, ⟨rfl, trivial⟩, Ent.pick [2, 2, 4, 4, 4, 4, 4] rfl, ?_⟩
    clear hgC hcC okS hsl
    rintro ⟨j, ⟨C, cc, gdd, gp, sl⟩⟩ ⟨hj, ⟨hgC, hcC, okS⟩, gd, hrec⟩ js2
    have hj : j ≤ l.length := hj
    refine ⟨fun hb => ?_, fun hb => ?_⟩
    · replace hb := of_decide_eq_true hb
      have hlt : j < l.length := by omega
      obtain ⟨q, rfl⟩ : ∃ q, P = some ⟨q, 0, .none⟩ := by
        rcases hgP with h | ⟨q, rfl⟩
        · omega
        · exact ⟨q, rfl⟩
      obtain ⟨x, hx⟩ : ∃ x, l[j]? = some x := ⟨_, List.getElem?_eq_getElem hlt⟩
      have hxm := List.mem_of_getElem? hx
      have hdrop : (psR d (qC d)).drop j = x.p :: (psR d (qC d)).drop (j + 1) := by
        rw [← hl, ← List.map_drop, ← List.map_drop, List.drop_eq_getElem_cons hlt, List.map_cons]
        congr 2
        exact Option.some.inj ((List.getElem?_eq_getElem hlt).symm.trans hx)
      obtain ⟨w1, w2, w3, w4, w5, w6, w7, w8, w9, w10⟩ := hw x hxm
      refine ⟨by omega, by omega, _, rfl, ?_⟩
      refine ⟨_, pa_rd 0 rfl hx, rfl, ?_⟩
      intro g14
      refine ⟨rfl, rfl, 7, rfl, rfl, Nat.le_of_ble_eq_true rfl, ?_⟩
      refine ⟨_, rdOff (o := 0) (n := 5) 7 rfl rfl, rfl, ?_⟩
      obtain ⟨hbs, hss⟩ := pa_bs (R := R) (h := ([.row (some ⟨q, 0, .none⟩) l.length pc 43 5 (paC l) (0, 0), .rows (paR l), .blk g14 43 x.cells] : Hp)) 1 rfl hxm (hpa x hxm)
      refine ⟨[2, 2, 2, 2, 2], _, Receive_ok _ (hG.rh _) (sls := sl.map Sl.pl) x.p x.dv x.pv ⟨C, cc, gdd, gp, sl, hgC, hcC, okS, rfl, rfl⟩ gd (by omega) (by omega) (by omega) (by omega) hbs hss, ?_⟩
      have gd2 := gd.recv x.p
      clear hgC hcC okS
      rintro _ _ ⟨rfl, C, cc, gdd, gp, sl2, hgC, hcC, okS, hsl2, rfl⟩
      by_cases e0 : recvE (hR d) (sl.map Sl.pl) x.p = 0
      case neg =>
        have hA : recAll (hR d) (List.replicate (partsN (hR d).sz.toNat) .none) (psR d (qC d)) = (recvE (hR d) (sl.map Sl.pl) x.p, sl.map Sl.pl) := by rw [hrec, hdrop, recAll_no e0]
        have hE := res_err hroot hA e0
        generalize recvE (hR d) (sl.map Sl.pl) x.p = e at e0 hE
        repeat (first | (refine ⟨fun h => ?_, fun h => ?_⟩; rotate_left 1; (focus (exfalso; (first | (with_reducible (cases h; done)) | (revert h; simp; done) | (revert h; simp; omega) | (revert h; simp [*]; done)))); clear h) | (refine ⟨fun h => ?_, fun h => ?_⟩; (focus (exfalso; (first | (with_reducible (cases h; done)) | (revert h; simp; done) | (revert h; simp; omega) | (revert h; simp [*]; done)))); clear h))
        exact ⟨_, Ent.nil _, .inr (.inl ⟨OK, by rw [hE]; exact e0, by rw [hE]; rfl, rfl⟩)⟩
      have hrec2 : recAll (hR d) (List.replicate (partsN (hR d).sz.toNat) .none) (psR d (qC d)) = recAll (hR d) (sl2.map Sl.pl) ((psR d (qC d)).drop (j + 1)) := by rw [hrec, hdrop, recAll_yes e0, hsl2]
      rw [e0]
      repeat (first | (refine ⟨fun h => ?_, fun h => ?_⟩; rotate_left 1; (focus (exfalso; (first | (with_reducible (cases h; done)) | (revert h; simp; done) | (revert h; simp; omega) | (revert h; simp [*]; done)))); clear h) | (refine ⟨fun h => ?_, fun h => ?_⟩; (focus (exfalso; (first | (with_reducible (cases h; done)) | (revert h; simp; done) | (revert h; simp; omega) | (revert h; simp [*]; done)))); clear h))
      (intro z hz; obtain rfl : z = ((j + 1 : Nat) : Int) := (by first | (rw [IntKind.wrap_i64] at hz; omega) | (rw [IntKind.wrap_u64] at hz; omega) | omega); clear hz)
      exact ⟨rfl, (j + 1, (C, cc, gdd, gp, sl2)), ⟨hlt, ⟨hgC, hcC, okS⟩, by rw [hsl2]; exact gd2, hrec2⟩, by show l.length - (j + 1) < l.length - j; omega, ⟨rfl, trivial⟩, Ent.pick [0, 0, 1, 1, 1, 1, 1] rfl, rfl⟩
    · replace hb := of_decide_eq_false hb
      obtain rfl : j = l.length := by omega
      rw [← hpl, List.drop_length, recAll] at hrec
      have hA := res_asc hroot hrec
      refine ⟨[none, none, some 2, some 3, none, none, none, none, none, none, none, none, none, none, none, none, some 16, none, none, none, none, none, none, none, none, none, none, none, none, none, none, none, none, none, none, none, none, none, none, none, none, none, none, none, none, none, none, none, none, none, none, none, none, none, none, none, none, none, none, none, none, none, none, none, none, none, none, none, none, none, none, none, none, none, none, none, none, none, some 78, some 79, some 80, some 81, some 82, some 83, some 84, some 85, some 86, some 87, some 88, some 89, some 90, some 91, some 92, some 93, some 94, some 95], [16], Nat, fun i => 1 ≤ i ∧ ∀ k a b, k + 1 < i → l[k]? = some a → l[k + 1]? = some b → a.p.off < b.p.off,
        fun i => [.int .i64 i],
        fun i => [.row P l.length pc 43 5 (paC l) (0, 0), .blk gn 96 (rcC (hR d) C cc gdd gp sl.length), .row C (hR d).sums.length cc 9 1 (SV (hR d).sums) (0, 0),
        .row (some ⟨gdd, 0, .none⟩) sl.length sl.length 41 1 (sl.map Sl.dv) (0, 0), .row (some ⟨gp, 0, .none⟩) sl.length sl.length 24 1 (sl.map Sl.pv) (0, 0), .rows (rowsS sl)],
        fun i => l.length - i, 1, ⟨Nat.le_refl _, fun k a b hk => by omega⟩, ⟨rfl, trivial⟩, Ent.pick [0, 1, 1, 1, 1, 1] rfl, ?_⟩
      rintro i ⟨hi1, hasc⟩ js3
      have hi1 : 1 ≤ i := hi1
      refine ⟨fun hb => ?_, fun hb => ?_⟩
      · replace hb := of_decide_eq_true hb
        have hlt : i < l.length := by omega
        obtain ⟨q, rfl⟩ : ∃ q, P = some ⟨q, 0, .none⟩ := by
          rcases hgP with h | ⟨q, rfl⟩
          · omega
          · exact ⟨q, rfl⟩
        obtain ⟨k, rfl⟩ : ∃ k, i = k + 1 := ⟨i - 1, by omega⟩
        obtain ⟨x, hx⟩ : ∃ x, l[k]? = some x := ⟨_, List.getElem?_eq_getElem (by omega)⟩
        obtain ⟨y, hy⟩ : ∃ y, l[k + 1]? = some y := ⟨_, List.getElem?_eq_getElem hlt⟩
        refine ⟨[0], lexT 0 12, by kernel_rfl, ?_⟩
        (intro z hz; obtain rfl : z = ((k : Nat) : Int) := (by first | (rw [IntKind.wrap_i64] at hz; omega) | (rw [IntKind.wrap_u64] at hz; omega) | omega); clear hz)
        refine ⟨by omega, by omega, _, rfl, ?_⟩
        refine ⟨_, pa_off 0 rfl hx, ?_⟩
        refine ⟨by omega, by omega, _, rfl, ?_⟩
        refine ⟨_, pa_off 0 rfl hy, ?_⟩
        refine ⟨fun hb => ?_, fun hb => ?_⟩
        · replace hb := of_decide_eq_true hb
          have hA2 : ¬ asc (psR d (qC d)) = true := fun h => by
            rw [← hl] at h
            have := asc_iff.1 h k x.p y.p (by rw [List.getElem?_map, hx]; rfl) (by rw [List.getElem?_map, hy]; rfl)
            omega
          rw [if_neg hA2] at hA
          repeat (first | (refine ⟨fun h => ?_, fun h => ?_⟩; rotate_left 1; (focus (exfalso; (first | (with_reducible (cases h; done)) | (revert h; simp; done) | (revert h; simp; omega) | (revert h; simp [*]; done)))); clear h) | (refine ⟨fun h => ?_, fun h => ?_⟩; (focus (exfalso; (first | (with_reducible (cases h; done)) | (revert h; simp; done) | (revert h; simp; omega) | (revert h; simp [*]; done)))); clear h))
          exact ⟨_, Ent.nil _, .inr (.inl ⟨OK, by rw [hA]; decide, by rw [hA]; rfl, rfl⟩)⟩
        · replace hb := of_decide_eq_false hb
          have hxy : x.p.off < y.p.off := by omega
          repeat (first | (refine ⟨fun h => ?_, fun h => ?_⟩; rotate_left 1; (focus (exfalso; (first | (with_reducible (cases h; done)) | (revert h; simp; done) | (revert h; simp; omega) | (revert h; simp [*]; done)))); clear h) | (refine ⟨fun h => ?_, fun h => ?_⟩; (focus (exfalso; (first | (with_reducible (cases h; done)) | (revert h; simp; done) | (revert h; simp; omega) | (revert h; simp [*]; done)))); clear h))
          (intro z hz; obtain rfl : z = ((k + 1 + 1 : Nat) : Int) := (by first | (rw [IntKind.wrap_i64] at hz; omega) | (rw [IntKind.wrap_u64] at hz; omega) | omega); clear hz)
          exact ⟨rfl, k + 1 + 1, ⟨by omega, fun j a b hj ha hb2 => by
            rcases Nat.lt_or_ge (j + 1) (k + 1) with h | h
            · exact hasc j a b h ha hb2
            · obtain rfl : j = k := by omega
              rw [hx] at ha; rw [hy] at hb2; cases ha; cases hb2; exact hxy⟩, by show l.length - (k + 1 + 1) < l.length - (k + 1); omega, ⟨rfl, trivial⟩, Ent.refl _, rfl⟩
      · replace hb := of_decide_eq_false hb
        have hA2 : asc (psR d (qC d)) = true := asc_iff.2 fun k a b ha hb2 => by
          rw [← hl, List.getElem?_map, Option.map_eq_some_iff] at ha hb2
          obtain ⟨x, hx, rfl⟩ := ha
          obtain ⟨y, hy, rfl⟩ := hb2
          have := (List.getElem?_eq_some_iff.1 hy).1
          exact hasc k x y (by omega) hx hy
        rw [if_pos hA2] at hA
        repeat (first | (refine ⟨fun h => ?_, fun h => ?_⟩; rotate_left 1; (focus (exfalso; (first | (with_reducible (cases h; done)) | (revert h; simp; done) | (revert h; simp; omega) | (revert h; simp [*]; done)))); clear h) | (refine ⟨fun h => ?_, fun h => ?_⟩; (focus (exfalso; (first | (with_reducible (cases h; done)) | (revert h; simp; done) | (revert h; simp; omega) | (revert h; simp [*]; done)))); clear h))
        exact ⟨_, Ent.pick [1, 1, 1, 1, 1] rfl, .inr (.inr ⟨OK, by rw [hA], gn, rfl, C, cc, gdd, gp, sl, hgC, hcC, okS, by rw [hA], rfl⟩)⟩

end Go.Proofs.YtnifppnpplgghaaGreatDoor
