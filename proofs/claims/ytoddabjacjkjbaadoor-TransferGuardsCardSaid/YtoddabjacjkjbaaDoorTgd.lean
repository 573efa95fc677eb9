/-
  Transfer: the law TransferGuards.
-/
import Derived.Test.YtoddabjacjkjbaaDoorTgc
import Derived.Test.YtoddabjacjkjbaaDoorTrl
import Derived.Test.YtoddabjacjkjbaaDoorTrm
import Derived.Test.YtoddabjacjkjbaaDoorTrn
import Derived.Test.YtoddabjacjkjbaaDoorTrp
namespace Go.Proofs.YtoddabjacjkjbaaDoor
open Go Go.RowKit
set_option linter.unusedVariables false
set_option linter.unusedSimpArgs false

theorem SeenV.u16 {R : Rd} {v : Value} (h : SeenV R (.int .u16) v) : ∃ n : Nat, v = .int .u16 n ∧ n ≤ 65535 := by
  obtain ⟨⟨n, hn, hw⟩, hv⟩ := h
  rw [cells_one hv] at hn
  simp only [List.cons.injEq, and_true] at hn
  subst hn
  have : 0 ≤ n ∧ n ≤ 65535 := by simpa [Lit.wf, IntKind.has, IntKind.min, IntKind.max, IntKind.bits, IntKind.signed] using hw
  exact ⟨n.toNat, by congr 1; omega, by omega⟩
theorem SeenV.u8 {R : Rd} {v : Value} (h : SeenV R (.int .u8) v) : ∃ x : UInt8, v = .int .u8 x.toNat := by
  obtain ⟨⟨n, hn, hw⟩, hv⟩ := h
  rw [cells_one hv] at hn
  simp only [List.cons.injEq, and_true] at hn
  subst hn
  have : 0 ≤ n ∧ n ≤ 255 := by simpa [Lit.wf, IntKind.has, IntKind.min, IntKind.max, IntKind.bits, IntKind.signed] using hw
  refine ⟨UInt8.ofNat n.toNat, ?_⟩
  congr 1
  rw [UInt8.toNat_ofNat']; omega
theorem recvE_got {h : Hd} {sls : List Slot} {p : Pt} (e : recvE h sls p = 0) : thereB h.sz p.off = true ∧ seeB (h.sums.getD h.ix.toNat []) h.sz 512 ((p.off.toNat / 512 : Nat) : Int) p.dt p.path = true := by
  by_cases hn : thereB h.sz p.off = true ∧ p.st = h.st ∧ p.ix = h.ix
  case neg => rw [recvE_no hn] at e; cases e
  cases hs : sls.getD (p.off.toNat / 512) .none with
  | some x => rw [recvE_there hn hs] at e; cases e
  | none =>
    rw [recvE_see hn hs] at e
    by_cases c : seeB (h.sums.getD h.ix.toNat []) h.sz 512 ((p.off.toNat / 512 : Nat) : Int) p.dt p.path = true
    · exact ⟨hn.1, c⟩
    · rw [if_neg c] at e; cases e
theorem verify_up {leaf root : Str} {k n : Nat} {path : List Str} (h : verifyB leaf (k : Int) (n : Int) path root = true) : k < n ∧ sumsB path = true ∧ (upR leaf path.reverse k n).2 = true ∧ (upR leaf path.reverse k n).1 = root := by
  unfold verifyB upOf at h
  simp only [Bool.and_eq_true, decide_eq_true_eq, beq_iff_eq, Int.toNat_natCast] at h
  obtain ⟨⟨⟨⟨⟨h1, h2⟩, h3⟩, h4⟩, h5⟩, h6, h7⟩ := h
  exact ⟨by omega, h5, h6, h7⟩
theorem see_up42 {root : Str} {m k : Nat} {x : Str} {path : List Str} (hm : 1 ≤ m) (hk : k ≤ (m - 1) / 512) (h : seeB root m 512 k x path = true) : sumsB path = true ∧ (upR (leafOf x) path.reverse k (partsN m)).2 = true ∧ (upR (leafOf x) path.reverse k (partsN m)).1 = root := by
  have h := h
  rw [show (512 : Int) = ((512 : Nat) : Int) from rfl, seeB_nat hm (by decide) hk] at h
  have e : partsN m = (m - 1) / 512 + 1 := by unfold partsN; omega
  split at h
  · rw [e]
    exact (verify_up h).2
  · cases h
theorem guard_clash {root : Str} {m k : Nat} {x y : Str} {px py : List Str} (hm : 1 ≤ m) (hk : k ≤ (m - 1) / 512) (hx : seeB root m 512 k x px = true) (hy : seeB root m 512 k y py = true) (hxy : x ≠ y) :
    Clash (preR x px.reverse k (partsN m)) (preR y py.reverse k (partsN m)) ∧ sumsB px = true ∧ sumsB py = true := by
  obtain ⟨a1, a2, a3⟩ := see_up42 hm hk hx
  obtain ⟨b1, b2, b3⟩ := see_up42 hm hk hy
  refine ⟨preR_clash x y hxy px.reverse py.reverse k (partsN m) (by unfold partsN; omega) (fun s hs => mem_sums a1 s (List.mem_reverse.1 hs)) (fun s hs => mem_sums b1 s (List.mem_reverse.1 hs)) a2 b2 (by rw [a3, b3]), a1, b1⟩
theorem part_path_le2 (p : Pc) (i : Nat) : (partAt p i).path.length ≤ partsN p.dt.length + 1 := by
  show (pathR (blockLeaves 512 p.dt) i).reverse.length ≤ _
  rw [List.length_reverse]
  have h1 := pathR_le _ (blockLeaves 512 p.dt) i rfl
  have h2 := blockLeaves_length (s := 512) (by decide) _ p.dt rfl
  rw [h2] at h1
  unfold countN at h1
  unfold partsN
  split at h1 <;> omega
set_option maxRecDepth 100000 in
set_option maxHeartbeats 16000000 in
theorem TransferGuards_law (R : Rd) (hG : ShaG R) (v0 v1 v2 v3 v4 : Value) (s0 : SeenV R (.int .u16) v0) (s1 : SeenV R (.int .u8) v1) (s2 : SeenV R (.int .i64) v2) (s3 : SeenV R (.int .i64) v3) (s4 : SeenV R PtShp v4) :
    Fn Tryd.prog 7 [v0, v1, v2, v3, v4] [] R (fun v _ => v = .bool true) := by
  have hML := maxLen_eq
  obtain ⟨t, rfl, ht⟩ := s0.u16
  obtain ⟨x, rfl⟩ := s1.u8
  obtain ⟨ix, rfl, hi1, hi2⟩ := s2.i64
  obtain ⟨n, rfl, hn1, hn2⟩ := s3.i64
  obtain ⟨q, D, B, rfl, hqd, hqs, hqi, hqo, hql, hqpl⟩ := s4.ptV
  have hqd' := hqd
  have hqs' := hqs
  obtain ⟨DA, dc, rfl, hdc, hdr⟩ := hqd'
  obtain ⟨EA, ec, rfl, hec, her⟩ := hqs'
  refine fn_of_vc mixed tabOk Tryd.func7 rfl (by kernel_rfl) (Nat.le_of_ble_eq_true rfl) ?_
  intro gb
  by_cases h1 : n < 1
  · repeat (first | (refine ⟨fun h => ?_, fun h => ?_⟩; rotate_left 1; (focus (exfalso; (first | (with_reducible (cases h; done)) | (revert h; simp; done) | (revert h; simp; omega) | (revert h; simp [*]; done)))); clear h) | (refine ⟨fun h => ?_, fun h => ?_⟩; (focus (exfalso; (first | (with_reducible (cases h; done)) | (revert h; simp; done) | (revert h; simp; omega) | (revert h; simp [*]; done)))); clear h))
    refine ⟨[], _, awake42_ok _ (hG.rh _), ?_⟩
    rintro _ _ ⟨rfl, rfl⟩
    exact ⟨_, Ent.nil _, rfl⟩
  by_cases h2 : 16 < n
  · repeat (first | (refine ⟨fun h => ?_, fun h => ?_⟩; rotate_left 1; (focus (exfalso; (first | (with_reducible (cases h; done)) | (revert h; simp; done) | (revert h; simp; omega) | (revert h; simp [*]; done)))); clear h) | (refine ⟨fun h => ?_, fun h => ?_⟩; (focus (exfalso; (first | (with_reducible (cases h; done)) | (revert h; simp; done) | (revert h; simp; omega) | (revert h; simp [*]; done)))); clear h))
    refine ⟨[], _, awake42_ok _ (hG.rh _), ?_⟩
    rintro _ _ ⟨rfl, rfl⟩
    exact ⟨_, Ent.nil _, rfl⟩
  by_cases h3 : ix < 0
  · repeat (first | (refine ⟨fun h => ?_, fun h => ?_⟩; rotate_left 1; (focus (exfalso; (first | (with_reducible (cases h; done)) | (revert h; simp; done) | (revert h; simp; omega) | (revert h; simp [*]; done)))); clear h) | (refine ⟨fun h => ?_, fun h => ?_⟩; (focus (exfalso; (first | (with_reducible (cases h; done)) | (revert h; simp; done) | (revert h; simp; omega) | (revert h; simp [*]; done)))); clear h))
    refine ⟨[], _, awake42_ok _ (hG.rh _), ?_⟩
    rintro _ _ ⟨rfl, rfl⟩
    exact ⟨_, Ent.nil _, rfl⟩
  by_cases h4 : n ≤ ix
  · repeat (first | (refine ⟨fun h => ?_, fun h => ?_⟩; rotate_left 1; (focus (exfalso; (first | (with_reducible (cases h; done)) | (revert h; simp; done) | (revert h; simp; omega) | (revert h; simp [*]; done)))); clear h) | (refine ⟨fun h => ?_, fun h => ?_⟩; (focus (exfalso; (first | (with_reducible (cases h; done)) | (revert h; simp; done) | (revert h; simp; omega) | (revert h; simp [*]; done)))); clear h))
    refine ⟨[], _, awake42_ok _ (hG.rh _), ?_⟩
    rintro _ _ ⟨rfl, rfl⟩
    exact ⟨_, Ent.nil _, rfl⟩
  repeat (first | (refine ⟨fun h => ?_, fun h => ?_⟩; rotate_left 1; (focus (exfalso; (first | (with_reducible (cases h; done)) | (revert h; simp; done) | (revert h; simp; omega) | (revert h; simp [*]; done)))); clear h) | (refine ⟨fun h => ?_, fun h => ?_⟩; (focus (exfalso; (first | (with_reducible (cases h; done)) | (revert h; simp; done) | (revert h; simp; omega) | (revert h; simp [*]; done)))); clear h))
  refine ⟨_, ld 0 rfl rfl, ?_⟩
  repeat (first | (refine ⟨fun h => ?_, fun h => ?_⟩; rotate_left 1; (focus (exfalso; (first | (with_reducible (cases h; done)) | (revert h; simp; done) | (revert h; simp; omega) | (revert h; simp [*]; done)))); clear h) | (refine ⟨fun h => ?_, fun h => ?_⟩; (focus (exfalso; (first | (with_reducible (cases h; done)) | (revert h; simp; done) | (revert h; simp; omega) | (revert h; simp [*]; done)))); clear h))
  refine ⟨_, ld 0 rfl rfl, ?_⟩
  repeat (first | (refine ⟨fun h => ?_, fun h => ?_⟩; rotate_left 1; (focus (exfalso; (first | (with_reducible (cases h; done)) | (revert h; simp; done) | (revert h; simp; omega) | (revert h; simp [*]; done)))); clear h) | (refine ⟨fun h => ?_, fun h => ?_⟩; (focus (exfalso; (first | (with_reducible (cases h; done)) | (revert h; simp; done) | (revert h; simp; omega) | (revert h; simp [*]; done)))); clear h))
  refine ⟨rfl, fun g1 => ?_⟩
  repeat (first | (refine ⟨fun h => ?_, fun h => ?_⟩; rotate_left 1; (focus (exfalso; (first | (with_reducible (cases h; done)) | (revert h; simp; done) | (revert h; simp; omega) | (revert h; simp [*]; done)))); clear h) | (refine ⟨fun h => ?_, fun h => ?_⟩; (focus (exfalso; (first | (with_reducible (cases h; done)) | (revert h; simp; done) | (revert h; simp; omega) | (revert h; simp [*]; done)))); clear h))
  refine ⟨[], _, few42_ok _ DA (some ⟨g1, 0, .none⟩) q.dt.length dc 1 EA q.path.length ec (SlR.own 1 rfl rfl (.inr ⟨g1, rfl⟩)), ?_⟩
  rintro _ _ ⟨rfl, rfl⟩
  by_cases hf : q.path.length ≤ 20 ∧ q.dt.length ≤ 2600
  case neg =>
    rw [decide_eq_false hf]
    · repeat (first | (refine ⟨fun h => ?_, fun h => ?_⟩; rotate_left 1; (focus (exfalso; (first | (with_reducible (cases h; done)) | (revert h; simp; done) | (revert h; simp; omega) | (revert h; simp [*]; done)))); clear h) | (refine ⟨fun h => ?_, fun h => ?_⟩; (focus (exfalso; (first | (with_reducible (cases h; done)) | (revert h; simp; done) | (revert h; simp; omega) | (revert h; simp [*]; done)))); clear h))
      refine ⟨[], _, awake42_ok _ (hG.rh _), ?_⟩
      rintro _ _ ⟨rfl, rfl⟩
      exact ⟨_, Ent.nil _, rfl⟩
  rw [decide_eq_true hf]
  repeat (first | (refine ⟨fun h => ?_, fun h => ?_⟩; rotate_left 1; (focus (exfalso; (first | (with_reducible (cases h; done)) | (revert h; simp; done) | (revert h; simp; omega) | (revert h; simp [*]; done)))); clear h) | (refine ⟨fun h => ?_, fun h => ?_⟩; (focus (exfalso; (first | (with_reducible (cases h; done)) | (revert h; simp; done) | (revert h; simp; omega) | (revert h; simp [*]; done)))); clear h))
  obtain ⟨m, rfl⟩ : ∃ m : Nat, n = m := ⟨n.toNat, by omega⟩
  (intro z hz; obtain rfl : z = ((t : Nat) : Int) := (by first | (rw [IntKind.wrap_i64] at hz; omega) | (rw [IntKind.wrap_u64] at hz; omega) | omega); clear hz)
  refine ⟨by decide, ?_⟩
  intro z hz
  obtain rfl := rem_nat (a := t) (b := 2600) rfl hz
  clear hz
  (intro z hz; obtain rfl : z = ((1 + t % 2600 : Nat) : Int) := (by first | (rw [IntKind.wrap_i64] at hz; omega) | (rw [IntKind.wrap_u64] at hz; omega) | omega); clear hz)
  refine ⟨[], _, bytes_ok _ (1 + t % 2600) x (by omega), ?_⟩
  have hbl := bytesL_length (1 + t % 2600) x
  generalize bytesL (1 + t % 2600) x = dt at hbl
  rintro _ _ ⟨A0, cap0, rfl, rfl, hg0, hc0⟩
  refine ⟨[], _, piece_ok _ dt ix m _ (by omega) (by omega) (bs_own 2 rfl hg0 hc0), ?_⟩
  have hv : VPc (pieceP dt ix m) := piece_valid (by omega) (by omega) (by omega) (by omega) (by omega) (by omega)
  have hsl := pcS_length dt ix m
  rintro _ _ ⟨S0, cs0, rfl, rfl, hgs0, hcs0⟩
  obtain ⟨p, hp⟩ : ∃ p, p = pieceP dt ix m := ⟨_, rfl⟩
  have hpd : p.dt = dt := by rw [hp]; rfl
  have hps : p.sums = pcS dt ix m := by rw [hp]; rfl
  rw [← hps] at hsl hgs0 hcs0 ⊢
  rw [← hp] at hv ⊢
  rw [← hpd] at hg0 hc0 hbl ⊢
  clear hp hps hpd
  have hdl6 : p.dt.length ≤ 1000000 := by omega
  intro g11
  refine ⟨rfl, rfl, 4, rfl, rfl, Nat.le_of_ble_eq_true rfl, ?_⟩
  refine ⟨_, rdOff (o := 0) (n := 2) 4 rfl rfl, rfl, ?_⟩
  refine ⟨rfl, rfl, 0, rfl, rfl, Nat.le_of_ble_eq_true rfl, ?_⟩
  refine ⟨_, rdOff (o := 0) (n := 4) 4 rfl rfl, rfl, ?_⟩
  refine ⟨[], _, example_ok _ (hG.rh _) p _ _ hv (bs_own 2 rfl hg0 hc0) (ss_own 3 rfl hgs0 hcs0), ?_⟩
  have hgd0 : GoodR p.hd (List.replicate (partsN p.dt.length) .none) := GoodR.new hv.wf hv.root
  generalize (List.replicate (partsN p.dt.length) .none : List Slot) = sls at hgd0 ⊢
  rintro _ _ ⟨gs, gr, _, _, rfl, rfl, ⟨SC, scc, SDd, scd, hsg1, hsc1, hsg2, hsc2, rfl⟩, C, cc, gdd, gp, sl, hgC, hcC, okS, hpl, rfl⟩
  repeat (first | (refine ⟨fun h => ?_, fun h => ?_⟩; rotate_left 1; (focus (exfalso; (first | (with_reducible (cases h; done)) | (revert h; simp; done) | (revert h; simp; omega) | (revert h; simp [*]; done)))); clear h) | (refine ⟨fun h => ?_, fun h => ?_⟩; (focus (exfalso; (first | (with_reducible (cases h; done)) | (revert h; simp; done) | (revert h; simp; omega) | (revert h; simp [*]; done)))); clear h))
  have hgd : GoodR p.hd (sl.map Sl.pl) := by rw [hpl]; exact hgd0
  refine ⟨[], _, Save_ok _ hgd (rc_own 8 9 10 11 12 hgC hcC okS rfl rfl rfl rfl rfl), ?_⟩
  rw [hpl]
  generalize hbb : encR p.hd (pres p.hd sls) = b
  rintro _ _ ⟨B1, bc1, rfl, rfl, hgB1, hcB1⟩
  refine ⟨b, rfl, fun j c hb => BsR.at_ (SlR.own 13 rfl (by rw [BV_length, Nat.mul_one]) hgB1) hb, ?_⟩
  repeat (first | (refine ⟨fun h => ?_, fun h => ?_⟩; rotate_left 1; (focus (exfalso; (first | (with_reducible (cases h; done)) | (revert h; simp; done) | (revert h; simp; omega) | (revert h; simp [*]; done)))); clear h) | (refine ⟨fun h => ?_, fun h => ?_⟩; (focus (exfalso; (first | (with_reducible (cases h; done)) | (revert h; simp; done) | (revert h; simp; omega) | (revert h; simp [*]; done)))); clear h))
  obtain ⟨q2, hq2⟩ : ∃ q2 : Pt, q2 = ⟨p.st, p.ix, q.off, q.dt, q.path⟩ := ⟨_, rfl⟩
  have hcell : ptC q2 (.slice DA q.dt.length dc) (.slice EA q.path.length ec) = [.string ⟨⟨p.st⟩⟩, .int .i64 p.ix, .int .i64 q.off, .slice DA q.dt.length dc, .slice EA q.path.length ec] := by rw [hq2]; rfl
  have hoff : q2.off = q.off := by rw [hq2]
  have hqdt : q2.dt = q.dt := by rw [hq2]
  have hqpa : q2.path = q.path := by rw [hq2]
  refine ⟨_, rdOff (o := 0) (n := 5) 0 rfl rfl, rfl, ?_⟩
  refine ⟨[8, 8, 8, 8, 8], _, Receive_ok _ (hG.rh _) (sls := sls) ⟨p.st, p.ix, q.off, q.dt, q.path⟩ (.slice DA q.dt.length dc) (.slice EA q.path.length ec) ⟨C, cc, gdd, gp, sl, hgC, hcC, okS, hpl, rfl⟩ hgd0 hqo.lo hqo.hi (by show q.dt.length ≤ _; omega) (by show q.path.length ≤ _; omega) (hqd.rh _) (hqs.rh _), ?_⟩
  clear hgC hcC okS hpl hgd
  rw [← hq2]
  rintro _ _ ⟨rfl, C, cc, gdd, gp, sl, hgC, hcC, okS, hpl, rfl⟩
  by_cases e0 : recvE p.hd sls q2 = 0
  case neg =>
    rw [recvS_no e0] at hpl
    generalize recvE p.hd sls q2 = e at e0
    repeat (first | (refine ⟨fun h => ?_, fun h => ?_⟩; rotate_left 1; (focus (exfalso; (first | (with_reducible (cases h; done)) | (revert h; simp; done) | (revert h; simp; omega) | (revert h; simp [*]; done)))); clear h) | (refine ⟨fun h => ?_, fun h => ?_⟩; (focus (exfalso; (first | (with_reducible (cases h; done)) | (revert h; simp; done) | (revert h; simp; omega) | (revert h; simp [*]; done)))); clear h))
    refine ⟨[], _, awake42_ok _ (hG.rh _), ?_⟩
    rintro _ _ ⟨rfl, rfl⟩
    repeat (first | (refine ⟨fun h => ?_, fun h => ?_⟩; rotate_left 1; (focus (exfalso; (first | (with_reducible (cases h; done)) | (revert h; simp; done) | (revert h; simp; omega) | (revert h; simp [*]; done)))); clear h) | (refine ⟨fun h => ?_, fun h => ?_⟩; (focus (exfalso; (first | (with_reducible (cases h; done)) | (revert h; simp; done) | (revert h; simp; omega) | (revert h; simp [*]; done)))); clear h))
    have hgd : GoodR p.hd (sl.map Sl.pl) := by rw [hpl]; exact hgd0
    refine ⟨[], _, Save_ok _ hgd (rc_own 9 10 11 12 13 hgC hcC okS rfl rfl rfl rfl rfl), ?_⟩
    rw [hpl, hbb]
    rintro _ _ ⟨B2, bc2, rfl, rfl, hgB2, hcB2⟩
    repeat (first | (refine ⟨fun h => ?_, fun h => ?_⟩; rotate_left 1; (focus (exfalso; (first | (with_reducible (cases h; done)) | (revert h; simp; done) | (revert h; simp; omega) | (revert h; simp [*]; done)))); clear h) | (refine ⟨fun h => ?_, fun h => ?_⟩; (focus (exfalso; (first | (with_reducible (cases h; done)) | (revert h; simp; done) | (revert h; simp; omega) | (revert h; simp [*]; done)))); clear h))
    refine ⟨b, rfl, fun j c hb => BsR.at_ (SlR.own 14 rfl (by rw [BV_length, Nat.mul_one]) hgB2) hb, ?_⟩
    repeat (first | (refine ⟨fun h => ?_, fun h => ?_⟩; rotate_left 1; (focus (exfalso; (first | (with_reducible (cases h; done)) | (revert h; simp; done) | (revert h; simp; omega) | (revert h; simp [*]; done)))); clear h) | (refine ⟨fun h => ?_, fun h => ?_⟩; (focus (exfalso; (first | (with_reducible (cases h; done)) | (revert h; simp; done) | (revert h; simp; omega) | (revert h; simp [*]; done)))); clear h))
    exact ⟨_, Ent.nil _, by show Value.bool (decide (b = b)) = _; rw [decide_eq_true rfl]⟩
  obtain ⟨hth, hse⟩ := recvE_got e0
  rw [hoff] at hth hse
  rw [hqdt, hqpa] at hse
  rw [e0]
  repeat (first | (refine ⟨fun h => ?_, fun h => ?_⟩; rotate_left 1; (focus (exfalso; (first | (with_reducible (cases h; done)) | (revert h; simp; done) | (revert h; simp; omega) | (revert h; simp [*]; done)))); clear h) | (refine ⟨fun h => ?_, fun h => ?_⟩; (focus (exfalso; (first | (with_reducible (cases h; done)) | (revert h; simp; done) | (revert h; simp; omega) | (revert h; simp [*]; done)))); clear h))
  refine ⟨_, ld 4 rfl rfl, ?_⟩
  refine ⟨_, ld 0 rfl rfl, ?_⟩
  refine ⟨[], _, There_ok _ q.off p.dt.length hqo.lo hqo.hi, ?_⟩
  rintro _ _ ⟨rfl, rfl⟩
  have hth : thereB p.dt.length q.off = true := hth
  rw [hth]
  repeat (first | (refine ⟨fun h => ?_, fun h => ?_⟩; rotate_left 1; (focus (exfalso; (first | (with_reducible (cases h; done)) | (revert h; simp; done) | (revert h; simp; omega) | (revert h; simp [*]; done)))); clear h) | (refine ⟨fun h => ?_, fun h => ?_⟩; (focus (exfalso; (first | (with_reducible (cases h; done)) | (revert h; simp; done) | (revert h; simp; omega) | (revert h; simp [*]; done)))); clear h))
  refine ⟨_, rdOff (o := 0) (n := 4) 4 rfl rfl, rfl, ?_⟩
  refine ⟨_, ld 0 rfl rfl, ?_⟩
  refine ⟨[], _, rShow_ok _ p _ _ hdl6 q.off hth (bs_own 2 rfl hg0 hc0), ?_⟩
  have hto := of_decide_eq_true hth
  have hkk : q.off.toNat / 512 < partsN p.dt.length := by unfold partsN; omega
  have hsee := part_see hv hkk
  have hlp2 := part_path_le2 p (q.off.toNat / 512)
  have hld2 := part_dt_le p (q.off.toNat / 512)
  have hst : (partAt p (q.off.toNat / 512)).st = p.st := rfl
  generalize hhon : partAt p (q.off.toNat / 512) = w at hsee hlp2 hld2
  rintro _ _ ⟨WA, wc, WB, wb, rfl, rfl, hgW1, hcW1, hgW2, hcW2⟩
  intro g16
  refine ⟨rfl, rfl, 16, rfl, rfl, Nat.le_of_ble_eq_true rfl, ?_⟩
  refine ⟨_, ld 16 rfl rfl, ?_⟩
  refine ⟨w.dt, rfl, fun j c hb => BsR.at_ (SlR.own 14 rfl (by rw [BV_length, Nat.mul_one]) hgW1) hb, ?_⟩
  refine ⟨_, ld 0 rfl rfl, ?_⟩
  refine ⟨q.dt, rfl, fun j c hb => BsR.at_ (hdr.rh _) hb, ?_⟩
  by_cases hsame : w.dt = q.dt
  · repeat (first | (refine ⟨fun h => ?_, fun h => ?_⟩; rotate_left 1; (focus (exfalso; (first | (with_reducible (cases h; done)) | (revert h; simp; done) | (revert h; simp; omega) | (revert h; simp [*]; done)))); clear h) | (refine ⟨fun h => ?_, fun h => ?_⟩; (focus (exfalso; (first | (with_reducible (cases h; done)) | (revert h; simp; done) | (revert h; simp; omega) | (revert h; simp [*]; done)))); clear h))
    refine ⟨[], _, awake42_ok _ (hG.rh _), ?_⟩
    rintro _ _ ⟨rfl, rfl⟩
    exact ⟨_, Ent.nil _, rfl⟩
  repeat (first | (refine ⟨fun h => ?_, fun h => ?_⟩; rotate_left 1; (focus (exfalso; (first | (with_reducible (cases h; done)) | (revert h; simp; done) | (revert h; simp; omega) | (revert h; simp [*]; done)))); clear h) | (refine ⟨fun h => ?_, fun h => ?_⟩; (focus (exfalso; (first | (with_reducible (cases h; done)) | (revert h; simp; done) | (revert h; simp; omega) | (revert h; simp [*]; done)))); clear h))
  have hp1 : 1 ≤ p.dt.length := by omega
  obtain ⟨hcl, hsx, hsy⟩ := guard_clash (m := p.dt.length) (k := q.off.toNat / 512) hp1 (by unfold partsN at hkk; omega) hsee hse hsame
  have hp7 : partsN p.dt.length ≤ 6 := by unfold partsN; omega
  refine ⟨[0,3,12,12,12], (.one 0 (.q 1 (.q 2 (.q 3 (.q 4 (.q 5 (.q 6 (.q 7 (.q 9 (.q 10 (.q 11 (.q 12 (.q 13 (.q 14 (.q 15 (.q 16 (.one 8 (.one 17 (.q 18 (.q 19 .nil)))))))))))))))))))), by kernel_rfl, ?_⟩
  refine ⟨[], _, awake42_ok _ ((hG.rh _).rh _), ?_⟩
  rintro _ _ ⟨rfl, rfl⟩
  repeat (first | (refine ⟨fun h => ?_, fun h => ?_⟩; rotate_left 1; (focus (exfalso; (first | (with_reducible (cases h; done)) | (revert h; simp; done) | (revert h; simp; omega) | (revert h; simp [*]; done)))); clear h) | (refine ⟨fun h => ?_, fun h => ?_⟩; (focus (exfalso; (first | (with_reducible (cases h; done)) | (revert h; simp; done) | (revert h; simp; omega) | (revert h; simp [*]; done)))); clear h))
  refine ⟨_, ld 0 rfl rfl, ?_⟩
  repeat (first | (refine ⟨fun h => ?_, fun h => ?_⟩; rotate_left 1; (focus (exfalso; (first | (with_reducible (cases h; done)) | (revert h; simp; done) | (revert h; simp; omega) | (revert h; simp [*]; done)))); clear h) | (refine ⟨fun h => ?_, fun h => ?_⟩; (focus (exfalso; (first | (with_reducible (cases h; done)) | (revert h; simp; done) | (revert h; simp; omega) | (revert h; simp [*]; done)))); clear h))
  refine ⟨by decide, ?_⟩
  intro z hz
  obtain rfl := quo_nat (a := q.off.toNat) (b := 512) (by omega) (by omega) hz
  clear hz
  repeat (first | (refine ⟨fun h => ?_, fun h => ?_⟩; rotate_left 1; (focus (exfalso; (first | (with_reducible (cases h; done)) | (revert h; simp; done) | (revert h; simp; omega) | (revert h; simp [*]; done)))); clear h) | (refine ⟨fun h => ?_, fun h => ?_⟩; (focus (exfalso; (first | (with_reducible (cases h; done)) | (revert h; simp; done) | (revert h; simp; omega) | (revert h; simp [*]; done)))); clear h))
  refine ⟨_, ld 1 rfl rfl, ?_⟩
  repeat (first | (refine ⟨fun h => ?_, fun h => ?_⟩; rotate_left 1; (focus (exfalso; (first | (with_reducible (cases h; done)) | (revert h; simp; done) | (revert h; simp; omega) | (revert h; simp [*]; done)))); clear h) | (refine ⟨fun h => ?_, fun h => ?_⟩; (focus (exfalso; (first | (with_reducible (cases h; done)) | (revert h; simp; done) | (revert h; simp; omega) | (revert h; simp [*]; done)))); clear h))
  refine ⟨_, ld 4 rfl rfl, ?_⟩
  repeat (first | (refine ⟨fun h => ?_, fun h => ?_⟩; rotate_left 1; (focus (exfalso; (first | (with_reducible (cases h; done)) | (revert h; simp; done) | (revert h; simp; omega) | (revert h; simp [*]; done)))); clear h) | (refine ⟨fun h => ?_, fun h => ?_⟩; (focus (exfalso; (first | (with_reducible (cases h; done)) | (revert h; simp; done) | (revert h; simp; omega) | (revert h; simp [*]; done)))); clear h))
  refine ⟨_, ld 0 rfl rfl, ?_⟩
  repeat (first | (refine ⟨fun h => ?_, fun h => ?_⟩; rotate_left 1; (focus (exfalso; (first | (with_reducible (cases h; done)) | (revert h; simp; done) | (revert h; simp; omega) | (revert h; simp [*]; done)))); clear h) | (refine ⟨fun h => ?_, fun h => ?_⟩; (focus (exfalso; (first | (with_reducible (cases h; done)) | (revert h; simp; done) | (revert h; simp; omega) | (revert h; simp [*]; done)))); clear h))
  refine ⟨_, ld 4 rfl rfl, ?_⟩
  repeat (first | (refine ⟨fun h => ?_, fun h => ?_⟩; rotate_left 1; (focus (exfalso; (first | (with_reducible (cases h; done)) | (revert h; simp; done) | (revert h; simp; omega) | (revert h; simp [*]; done)))); clear h) | (refine ⟨fun h => ?_, fun h => ?_⟩; (focus (exfalso; (first | (with_reducible (cases h; done)) | (revert h; simp; done) | (revert h; simp; omega) | (revert h; simp [*]; done)))); clear h))
  refine ⟨_, ld 0 rfl rfl, ?_⟩
  repeat (first | (refine ⟨fun h => ?_, fun h => ?_⟩; rotate_left 1; (focus (exfalso; (first | (with_reducible (cases h; done)) | (revert h; simp; done) | (revert h; simp; omega) | (revert h; simp [*]; done)))); clear h) | (refine ⟨fun h => ?_, fun h => ?_⟩; (focus (exfalso; (first | (with_reducible (cases h; done)) | (revert h; simp; done) | (revert h; simp; omega) | (revert h; simp [*]; done)))); clear h))
  refine ⟨[], _, rParts_ok _ p.dt.length (by omega), ?_⟩
  rintro _ _ ⟨rfl, rfl⟩
  repeat (first | (refine ⟨fun h => ?_, fun h => ?_⟩; rotate_left 1; (focus (exfalso; (first | (with_reducible (cases h; done)) | (revert h; simp; done) | (revert h; simp; omega) | (revert h; simp [*]; done)))); clear h) | (refine ⟨fun h => ?_, fun h => ?_⟩; (focus (exfalso; (first | (with_reducible (cases h; done)) | (revert h; simp; done) | (revert h; simp; omega) | (revert h; simp [*]; done)))); clear h))
  refine ⟨[], _, clash_ok _ w.dt q.dt w.path q.path (q.off.toNat / 512) (partsN p.dt.length) _ _ _ _ (by omega) (by omega) hkk (by omega) (by exact ⟨by omega, fun s hs => by have := mem_sums hsx s hs; omega⟩) (by exact ⟨by omega, fun s hs => by have := mem_sums hsy s hs; omega⟩) (by omega) (by omega) ((bs_own (R := R) 2 rfl hgW1 hcW1).rh _) ((hqd.rh _).rh _) ((ss_own (R := R) 3 rfl hgW2 hcW2).rh _) ((hqs.rh _).rh _) hcl, ?_⟩
  rintro _ _ ⟨rfl, rfl⟩
  repeat (first | (refine ⟨fun h => ?_, fun h => ?_⟩; rotate_left 1; (focus (exfalso; (first | (with_reducible (cases h; done)) | (revert h; simp; done) | (revert h; simp; omega) | (revert h; simp [*]; done)))); clear h) | (refine ⟨fun h => ?_, fun h => ?_⟩; (focus (exfalso; (first | (with_reducible (cases h; done)) | (revert h; simp; done) | (revert h; simp; omega) | (revert h; simp [*]; done)))); clear h))
  exact ⟨_, Ent.nil _, rfl⟩

end Go.Proofs.YtoddabjacjkjbaaDoor
