/-
  Transfer: the reference's Save.
-/
import Derived.Test.YtnifppnpplgghaaGreatDoorTrp
import Derived.Test.YtnifppnpplgghaaGreatDoorTri
namespace Go.Proofs.YtnifppnpplgghaaGreatDoor
open Go Go.RowKit
set_option linter.unusedVariables false
set_option linter.unusedSimpArgs false

/-- A slot of the reference's receiver: is it there; the part; where its bytes and its path lie. -/
structure RSl where
  b : Bool
  p : Pt
  D : Value
  B : Value
def RSl.cells (x : RSl) : List Value := ptC x.p x.D x.B
def rsB (l : List RSl) : List Value := l.map fun x => .bool x.b
def rsC (l : List RSl) : List Value := l.flatMap RSl.cells
def rsP (l : List RSl) : List Pt := (l.filter fun x => x.b).map RSl.p
def rsI (l : List RSl) : List Item := (rsP l).map fun p => itB (encP p)
theorem rsP_yes {l : List RSl} {x : RSl} {i : Nat} (hx : l[i]? = some x) (hb : x.b = true) : rsP (l.take (i + 1)) = rsP (l.take i) ++ [x.p] := by
  unfold rsP
  rw [List.take_add_one, hx]
  simp [List.filter_append, hb]
theorem rsP_no {l : List RSl} {x : RSl} {i : Nat} (hx : l[i]? = some x) (hb : x.b = false) : rsP (l.take (i + 1)) = rsP (l.take i) := by
  unfold rsP
  rw [List.take_add_one, hx]
  simp [List.filter_append, hb]
theorem rsP_le (l : List RSl) : (rsP l).length ≤ l.length := by unfold rsP; rw [List.length_map]; exact List.length_filter_le _ _
theorem rsI_length (l : List RSl) : (rsI l).length = (rsP l).length := List.length_map _
def itemsR (h : Hd) (ps : List Pt) : List Item := [itB (encH h), itCt ps.length] ++ ps.map fun p => itB (encP p)
theorem flat_body (ps : List Pt) : (ps.map fun p => itB (encP p)).flatMap (fun x => (enc1 x).getD []) = bodyP ps := by
  induction ps with
  | nil => rfl
  | cons p ps ih => rw [List.map_cons, List.flatMap_cons, ih, bodyP_cons, enc_itB]; exact List.append_assoc _ _ _
theorem encS_R (h : Hd) (ps : List Pt) : encS (itemsR h ps) = (encR h ps, 0) := by
  rw [encS_all]
  · unfold itemsR
    rw [List.flatMap_append, flat_body]
    simp only [List.flatMap_cons, List.flatMap_nil, enc_itB, enc_itCt, Option.getD_some, List.append_nil, encR, List.append_assoc]
  · intro x hx
    rcases List.mem_append.1 hx with hx | hx
    · simp only [List.mem_cons, List.not_mem_nil, or_false] at hx
      rcases hx with rfl | rfl
      · exact ⟨_, enc_itB _⟩
      · exact ⟨_, enc_itCt _⟩
    · obtain ⟨p, _, rfl⟩ := List.mem_map.1 hx
      exact ⟨_, enc_itB _⟩
theorem oks_R {h : Hd} {ps : List Pt} (w : WfH h) (wp : ∀ p ∈ ps, WfP p) (hn : ps.length ≤ 1000) : ∀ x ∈ itemsR h ps, x.Ok ∧ x.s.length ≤ 100000 := fun x hx => by
  have h1 := encH_le w
  rcases List.mem_append.1 hx with hx | hx
  · simp only [List.mem_cons, List.not_mem_nil, or_false] at hx
    rcases hx with rfl | rfl
    · exact ⟨ok_itB (by omega), by show (encH h).length ≤ _; omega⟩
    · exact ⟨ok_itCt (by omega), Nat.zero_le _⟩
  · obtain ⟨p, hp, rfl⟩ := List.mem_map.1 hx
    have := encP_le (wp p hp)
    exact ⟨ok_itB (by omega), by show (encP p).length ≤ _; omega⟩

theorem sl1_at {R : Rd} {A : Option Addr} {n cap : Nat} {xs : List Value} (h : SlR R 1 (.slice A n cap) n xs) {i : Nat} {u : Value} (hu : xs[i]? = some u) : ∃ a, A = some a ∧ R (addA a (Int.toNat (i : Int) * 1)) u := by
  obtain ⟨_, A', cap', e, hr⟩ := h
  cases e
  obtain ⟨a, ha, h2⟩ := hr i u hu
  exact ⟨a, ha, by rw [toNat1, ← addA_eq]; exact h2⟩
theorem slr5_at {R : Rd} {α : Type} {c : α → List Value} {sz : Nat} (hsz : ∀ x, (c x).length = sz) (h0 : 0 < sz) {A : Option Addr} {n cap : Nat} {l : List α} (h : SlR R sz (.slice A n cap) n (l.flatMap c)) {i : Nat} {x : α} (hx : l[i]? = some x) : ∃ a, A = some a ∧ ∀ j u, (c x)[j]? = some u → R (a.add (i * sz + j)) u := by
  obtain ⟨_, A', cap', hv, hr⟩ := h
  cases hv
  have h1 : 0 < (c x).length := by rw [hsz]; exact h0
  obtain ⟨a, rfl, _⟩ := hr (i * sz + 0) _ (flat_at (sz := sz) (c := c) (fun x _ => hsz x) hx (j := 0) (List.getElem?_eq_getElem h1))
  refine ⟨a, rfl, fun j u hu => ?_⟩
  obtain ⟨a', ha, hR⟩ := hr (i * sz + j) u (flat_at (sz := sz) (c := c) (fun x _ => hsz x) hx hu)
  cases ha
  exact hR
theorem sl5_at {R : Rd} {A : Option Addr} {cap : Nat} {l : List RSl} (h : SlR R 5 (.slice A l.length cap) l.length (rsC l)) {i : Nat} {x : RSl} (hx : l[i]? = some x) : ∃ a, A = some a ∧ ∀ k u, x.cells[k]? = some u → R ((addA a (Int.toNat (i : Int) * 5)).add k) u := by
  obtain ⟨a, ha, h2⟩ := slr5_at (c := RSl.cells) (sz := 5) (fun _ => rfl) (by omega) h hx
  exact ⟨a, ha, fun k u hu => by
    rw [show Int.toNat (i : Int) * 5 = i * 5 by simp, ← addA_eq, add_add]
    exact h2 k u hu⟩

set_option maxRecDepth 100000 in
set_option maxHeartbeats 16000000 in
theorem rSave_ok0 (R : Rd) (h : Hd) (B : Value) (l : List RSl) (ha hp : Option Addr) (ca cp : Nat) (w : WfH h) (hs : Ss R B h.sums) (hl : l.length ≤ 128) (hbs : SlR R 1 (.slice ha l.length ca) l.length (rsB l)) (hcs : SlR R 5 (.slice hp l.length cp) l.length (rsC l))
    (wp : ∀ x ∈ l, x.b = true → WfP x.p ∧ Bs R x.D x.p.dt ∧ Ss R x.B x.p.path) :
    Fn Tryz.prog 26 [.agg ⟨hdC h B ++ [.slice ha l.length ca, .slice hp l.length cp]⟩] [] R
      (fun v hq => ∃ A cap, v = .slice A (encR h (rsP l)).length cap ∧ hq = [.row A (encR h (rsP l)).length cap 5 1 (BV (encR h (rsP l))) (0, 0)] ∧ grow (encR h (rsP l)).length A) := by
  have hML := maxLen_eq
  have hle := encH_le w
  refine fn_of_vc mixed tabOk Tryz.func26 rfl (by kernel_rfl) (Nat.le_of_ble_eq_true rfl) ?_
  intro gb
  refine ⟨rfl, fun g0 => ?_⟩
  refine ⟨[none, none, none, some 3, some 4, none, none, none, some 8, some 9, some 10, some 11, some 12, some 13, some 14, some 15, some 16, some 17, some 18, some 19, some 20, some 21, some 22, some 23, some 24, some 25, some 26, some 27, some 28, some 29, some 30], [3, 4], Nat × (Option Addr × Nat × Nat × List Value), fun ⟨i, (A, n, cap, xs)⟩ => i ≤ l.length ∧ n = (rsP (l.take i)).length ∧ xs = iC (rsI (l.take i)) ∧ grow n A,
    fun ⟨i, (A, n, cap, xs)⟩ => [.slice A n cap, .int .i64 i], fun ⟨i, (A, n, cap, xs)⟩ => [.blk gb 39 (hdC h B ++ [.slice ha l.length ca, .slice hp l.length cp]), .row A n cap 114 6 xs (0, 0)],
    fun ⟨i, _⟩ => l.length - i, (0, (some ⟨g0, 0, .none⟩, 0, 0, [])), ⟨Nat.zero_le _, rfl, rfl, .inr ⟨g0, rfl⟩⟩, ⟨rfl, rfl, trivial⟩, Ent.refl _, ?_⟩
  rintro ⟨i, ⟨A, n, cap, xs⟩⟩ ⟨hi, hn, hx, hg⟩ js
  have hi : i ≤ l.length := hi
  have hn1 : (rsP (l.take i)).length ≤ l.length := Nat.le_trans (rsP_le _) (by rw [List.length_take]; omega)
  refine ⟨_, ld 0 rfl rfl, ?_⟩
  refine ⟨fun hb => ?_, fun hb => ?_⟩
  · replace hb := of_decide_eq_true hb
    have hlt : i < l.length := by omega
    obtain ⟨x, hx0⟩ : ∃ x, l[i]? = some x := ⟨_, List.getElem?_eq_getElem hlt⟩
    have htk := List.take_add_one (l := l) (i := i)
    obtain ⟨a1, rfl, hr1⟩ := sl1_at hbs (show (rsB l)[i]? = some (.bool x.b) by unfold rsB; rw [List.getElem?_map, hx0]; rfl)
    obtain ⟨a2, rfl, hr2⟩ := sl5_at hcs hx0
    refine ⟨_, ld 0 rfl rfl, ?_⟩
    refine ⟨by omega, by omega, a1, rfl, _, .inl hr1, ?_⟩
    cases hxb : x.b with
    | false =>
      repeat (first | (refine ⟨fun h => ?_, fun h => ?_⟩; rotate_left 1; (focus (exfalso; (first | (with_reducible (cases h; done)) | (revert h; simp; done) | (revert h; simp; omega) | (revert h; simp [*]; done)))); clear h) | (refine ⟨fun h => ?_, fun h => ?_⟩; (focus (exfalso; (first | (with_reducible (cases h; done)) | (revert h; simp; done) | (revert h; simp; omega) | (revert h; simp [*]; done)))); clear h))
      (intro z hz; obtain rfl : z = ((i + 1 : Nat) : Int) := (by first | (rw [IntKind.wrap_i64] at hz; omega) | (rw [IntKind.wrap_u64] at hz; omega) | omega); clear hz)
      exact ⟨rfl, (i + 1, (A, n, cap, xs)), ⟨hlt, by rw [rsP_no hx0 hxb]; exact hn, by unfold rsI; rw [rsP_no hx0 hxb]; exact hx, hg⟩, by show l.length - (i + 1) < l.length - i; omega, ⟨rfl, rfl, trivial⟩, Ent.refl _, rfl⟩
    | true =>
      repeat (first | (refine ⟨fun h => ?_, fun h => ?_⟩; rotate_left 1; (focus (exfalso; (first | (with_reducible (cases h; done)) | (revert h; simp; done) | (revert h; simp; omega) | (revert h; simp [*]; done)))); clear h) | (refine ⟨fun h => ?_, fun h => ?_⟩; (focus (exfalso; (first | (with_reducible (cases h; done)) | (revert h; simp; done) | (revert h; simp; omega) | (revert h; simp [*]; done)))); clear h))
      obtain ⟨wx, hxd, hxs⟩ := wp x (List.mem_of_getElem? hx0) hxb
      have hple := encP_le wx
      refine ⟨_, ld 0 rfl rfl, ?_⟩
      refine ⟨by omega, by omega, a2, rfl, ?_⟩
      refine ⟨_, fun k u hu => .inl (hr2 k u hu), rfl, ?_⟩
      refine ⟨[], _, rEncP_ok _ x.p x.D x.B wx (hxd.rh _) (hxs.rh _), ?_⟩
      rintro _ _ ⟨A2, cap2, rfl, rfl, hg2, hc2⟩
      refine ⟨encP x.p, rfl, fun j b hb => BsR.at_ (SlR.own 2 rfl (by rw [BV_length, Nat.mul_one]) hg2) hb, ?_⟩
      refine ⟨rfl, fun g2 => ?_⟩
      refine ⟨(itB (encP x.p)).cells, rfl, slr_src (SlR.own 3 rfl rfl (.inr ⟨g2, rfl⟩)), rfl, by show (_ + 1) * 56 ≤ _; omega, by omega, .inr ⟨1, rfl, rfl, rfl, rfl, rfl, rfl, fun A3 cap3 hg3 => ?_⟩⟩
      (intro z hz; obtain rfl : z = ((i + 1 : Nat) : Int) := (by first | (rw [IntKind.wrap_i64] at hz; omega) | (rw [IntKind.wrap_u64] at hz; omega) | omega); clear hz)
      exact ⟨rfl, (i + 1, (A3, n + 1, cap3, xs ++ (itB (encP x.p)).cells)), ⟨hlt, by rw [rsP_yes hx0 hxb, List.length_append, hn]; rfl, by unfold rsI at hx ⊢; rw [rsP_yes hx0 hxb, List.map_append, iC_app, hx]; rfl, hg3⟩, by show l.length - (i + 1) < l.length - i; omega, ⟨rfl, rfl, trivial⟩, Ent.pick [0, 0] rfl, rfl⟩
  · replace hb := of_decide_eq_false hb
    obtain rfl : i = l.length := by omega
    rw [List.take_length] at hn hx hn1
    have wps : ∀ p ∈ rsP l, WfP p := fun p hp => by
      unfold rsP at hp
      obtain ⟨x, hx2, rfl⟩ := List.mem_map.1 hp
      obtain ⟨h1, h2⟩ := List.mem_filter.1 hx2
      exact (wp x h1 h2).1
    have hoks := oks_R w wps (by omega)
    subst hn
    have hlr : (rsI l).length = (rsP l).length := rsI_length l
    refine ⟨_, rdOff (o := 0) (n := 4) 0 rfl rfl, rfl, ?_⟩
    refine ⟨[], _, rEncH_ok _ h B w (hs.rh _), ?_⟩
    rintro _ _ ⟨A2, cap2, rfl, rfl, hg2, hc2⟩
    refine ⟨encH h, rfl, fun j b hb => BsR.at_ (SlR.own 2 rfl (by rw [BV_length, Nat.mul_one]) hg2) hb, ?_⟩
    refine ⟨rfl, fun g2 => ?_⟩
    subst hx
    refine ⟨iC (rsI l), by rw [iC_length, hlr]; rfl, slr_src (SlR.own 1 rfl (by rw [iC_length, hlr]) hg), iC_one _, by show (_ + _) * 56 ≤ _; omega, by omega, .inr ⟨3, rfl, rfl, rfl, rfl, rfl, rfl, fun A5 cap5 hg5 => ?_⟩⟩
    refine ⟨[], _, refEncode_w _ _ (itemsR h (rsP l)) (fun y hy => (hoks y hy).1) (by unfold itemsR; rw [List.length_append, List.length_map]; show 2 + _ ≤ _; omega) (fun y hy => (hoks y hy).2) (items_own 3 rfl (by unfold itemsR; rw [List.length_append, List.length_map]; rfl) hg5), ?_⟩
    have hRl : (encR h (rsP l)).length ≤ 200000 := by
      have b2 := bodyP_le wps
      have b3 := num_le10 (n := (encH h).length) (by omega)
      have b4 := num_le10 (n := (rsP l).length) (by omega)
      unfold encR
      simp only [List.length_append]; omega
    rw [encS_R]
    rintro _ _ ⟨_, rfl, A6, k6, cap6, xs6, rfl, rfl, hk6, hx6, hg6⟩
    have e1 : doneB (encR h (rsP l)) 0 = encR h (rsP l) := by rw [doneB, if_pos ⟨rfl, by omega⟩]
    rw [show doneB ((encR h (rsP l), (0 : Int))).1 ((encR h (rsP l), (0 : Int))).2 = encR h (rsP l) from e1] at hk6 hx6
    subst hk6 hx6
    exact ⟨_, Ent.pick [4] rfl, A6, cap6, rfl, rfl, hg6⟩
theorem rSave_ok (R : Rd) (h : Hd) (B : Value) (l : List RSl) (ha hp : Option Addr) (ca cp : Nat) (w : WfH h) (hs : Ss R B h.sums) (hl : l.length ≤ 128) (hbs : SlR R 1 (.slice ha l.length ca) l.length (rsB l)) (hcs : SlR R 5 (.slice hp l.length cp) l.length (rsC l))
    (wp : ∀ x ∈ l, x.b = true → WfP x.p ∧ Bs R x.D x.p.dt ∧ Ss R x.B x.p.path) :
    Fn Tryz.prog 26 [.agg ⟨hdC h B ++ [.slice ha l.length ca, .slice hp l.length cp]⟩] [] R (OwnBl · (encR h (rsP l)) ·) := by
  refine Fn.post (rSave_ok0 R h B l ha hp ca cp w hs hl hbs hcs wp) ?_
  rintro _ _ w ⟨A', cap', rfl, rfl, hg⟩ o
  exact ⟨A', cap', rfl, rfl, hg, (row_cap o 0 rfl).1⟩

/-- The cells of a part that is not there. -/
def pt0C : List Value := ptC Pt0 (.slice .none 0 0) (.slice .none 0 0)
set_option maxRecDepth 100000 in
set_option maxHeartbeats 4000000 in
theorem rNew_ok (R : Rd) (h : Hd) (B : Value) (n : Nat) (hB : ∃ A k cap, B = .slice A k cap) (hz : h.sz = (n : Int)) (hn : n ≤ 65536) (hn0 : 1 ≤ n) : Fn Tryz.prog 15 [.agg ⟨hdC h B⟩] [] R
    (fun v hq => ∃ ga gp, v = .agg ⟨hdC h B ++ [.slice (some ⟨ga, 0, .none⟩) (partsN n) (partsN n), .slice (some ⟨gp, 0, .none⟩) (partsN n) (partsN n)]⟩ ∧
      hq = [.row (some ⟨ga, 0, .none⟩) (partsN n) (partsN n) 4 1 (repl [.bool false] (partsN n)) (0, 0), .row (some ⟨gp, 0, .none⟩) (partsN n) (partsN n) 44 5 (repl pt0C (partsN n)) (0, 0)]) := by
  have hML := maxLen_eq
  obtain ⟨BA, Bk, Bc, rfl⟩ := hB
  have hp : partsN n ≤ 128 := by unfold partsN; omega
  refine fn_of_vc mixed tabOk Tryz.func15 rfl (by kernel_rfl) (Nat.le_of_ble_eq_true rfl) ?_
  intro gb g2
  refine ⟨[0], .cut (.q 0 (.q 1 (.q 2 (.q 5 (.q 6 (.one 3 (.two 4 (.one 7 (.one 8 (.q 9 (.one 10 .nil)))) 7 (.two 4 (.one 8 (.q 9 (.one 10 .nil))) 8 (.one 4 (.q 9 (.one 10 .nil))))))))))), by kernel_rfl, [none, none, none, some 3, some 4, some 5, some 6, some 7, some 8, some 9, some 10, some 11, some 12], ?_⟩
  refine ⟨[], Nat × Nat, fun _ => True, fun _ => [], fun ⟨ga, gp⟩ => [.blk g2 39 (hdC h (.slice BA Bk Bc) ++ [.slice (some ⟨ga, 0, .none⟩) (partsN n) (partsN n), .slice (some ⟨gp, 0, .none⟩) (partsN n) (partsN n)]),
    .row (some ⟨ga, 0, .none⟩) (partsN n) (partsN n) 4 1 (repl [.bool false] (partsN n)) (0, 0), .row (some ⟨gp, 0, .none⟩) (partsN n) (partsN n) 44 5 (repl pt0C (partsN n)) (0, 0)], ?_, ?_⟩
  · have hP : ∀ R, Fn Tryz.prog 43 [.int .i64 h.sz] [] R (fun v h => v = .int .i64 (partsN n) ∧ h = []) := fun R => by rw [hz]; exact rParts_ok R n (by omega)
    refine ⟨_, rdOff (o := 0) (n := 4) 0 rfl rfl, rfl, ?_⟩
    refine ⟨_, ld 0 rfl rfl, ?_⟩
    refine ⟨_, ld 0 rfl rfl, ?_⟩
    refine ⟨[], _, hP _, ?_⟩
    rintro _ _ ⟨rfl, rfl⟩
    refine ⟨?_, ?_⟩
    · skip
      refine ⟨by omega, by omega, by show (1 : Int) * _ ≤ _; omega, by omega, fun ga => ?_⟩
      refine ⟨[], _, hP _, ?_⟩
      rintro _ _ ⟨rfl, rfl⟩
      refine ⟨by omega, by omega, by show (80 : Int) * _ ≤ _; omega, by omega, fun gp => ?_⟩
      refine ⟨rfl, rfl, 0, rfl, rfl, Nat.le_of_ble_eq_true rfl, ?_⟩
      exact ⟨rfl, (ga, gp), trivial, trivial, Ent.pick [0, 0, 0] rfl, rfl⟩
    · refine ⟨[], _, hP _, ?_⟩
      rintro _ _ ⟨rfl, rfl⟩
      refine ⟨?_, ?_⟩
      · skip
        refine ⟨by omega, by omega, by show (1 : Int) * _ ≤ _; omega, by omega, fun ga => ?_⟩
        refine ⟨by omega, by omega, by show (80 : Int) * _ ≤ _; omega, by omega, fun gp => ?_⟩
        refine ⟨rfl, rfl, 0, rfl, rfl, Nat.le_of_ble_eq_true rfl, ?_⟩
        exact ⟨rfl, (ga, gp), trivial, trivial, Ent.pick [0, 0, 0] rfl, rfl⟩
      · skip
        refine ⟨by omega, by omega, by show (80 : Int) * _ ≤ _; omega, by omega, fun gp => ?_⟩
        refine ⟨by omega, by omega, by show (1 : Int) * _ ≤ _; omega, by omega, fun ga => ?_⟩
        refine ⟨rfl, rfl, 0, rfl, rfl, Nat.le_of_ble_eq_true rfl, ?_⟩
        exact ⟨rfl, (ga, gp), trivial, trivial, Ent.pick [0, 1, 0] rfl, rfl⟩
  rintro ⟨ga, gp⟩ _ js
  refine ⟨_, rdOff (o := 0) (n := 6) 1 rfl rfl, rfl, ?_⟩
  exact ⟨_, Ent.pick [2, 2] rfl, ga, gp, rfl, rfl⟩

end Go.Proofs.YtnifppnpplgghaaGreatDoor
