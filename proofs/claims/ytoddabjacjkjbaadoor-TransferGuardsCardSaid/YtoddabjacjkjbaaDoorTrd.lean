/-
  Transfer: contracts of the encoding and the decoding of heads and parts.
-/
import Derived.Test.YtoddabjacjkjbaaDoorTrc
namespace Go.Proofs.YtoddabjacjkjbaaDoor
open Go Go.RowKit
set_option linter.unusedVariables false

set_option maxHeartbeats 2000000 in
theorem writeSums_ok (R : Rd) (g : Nat) (bs : Str) (h : Hp) (l : List Str) (v : Value) (hn : l.length ≤ 1000) (h32 : ∀ x ∈ l, x.length = 32) (hb : bs.length ≤ 1000000000) (hw : IsW g bs 0 h) (hs : Ss R v l) :
    Fn Tryd.prog 177 [.pointer (some ⟨g, 0, .none⟩), v] h R (fun _ h' => IsW g (bs ++ (num l.length ++ cat l)) 0 h') := by
  obtain ⟨A0, cap0, rfl, hc0, hsr⟩ := hs
  obtain ⟨A, k, cap, xs, rfl, hk, hx, hg⟩ := hw
  have hu := num_le10 (n := l.length) (by omega)
  refine fn_of_vc mixed tabOk Tryd.func177 rfl (by kernel_rfl) (Nat.le_of_ble_eq_true rfl) ?_
  refine ⟨[0, 0], _, WCount_ok _ g bs 0 _ l.length (by omega) (by omega) ⟨A, k, cap, xs, rfl, hk, hx, hg⟩, ?_⟩
  clear hk hx hg
  rw [if_pos ⟨rfl, by omega⟩, if_neg (by omega), Int.toNat_natCast]
  rintro _ _ ⟨A, k, cap, xs, rfl, hk, hx, hg⟩
  refine ⟨[none, none, none, none, none, some 5, none, none, none, none, none, none, some 12, some 13, some 14, some 15, some 16, some 17, some 18, some 19], [12], Nat × (Option Addr × Nat × Nat × List Value), fun ⟨i, (A, k, cap, xs)⟩ => i ≤ l.length ∧ k = (bs ++ num l.length ++ cat (l.take i)).length ∧ xs = BV (bs ++ num l.length ++ cat (l.take i)) ∧ grow k A,
    fun ⟨i, _⟩ => [.int .i64 i], fun ⟨i, (A, k, cap, xs)⟩ => [.blk g 217 [.slice A k cap, .int .i64 0], .row A k cap 5 1 xs (0, 0)], fun ⟨i, _⟩ => l.length - i,
    (0, (A, k, cap, xs)), ⟨Nat.zero_le _, by rw [List.take_zero]; simpa [cat] using hk, by rw [List.take_zero]; simpa [cat] using hx, hg⟩, ⟨rfl, trivial⟩, Ent.refl _, ?_⟩
  clear hk hx hg
  rintro ⟨i, ⟨A, k, cap, xs⟩⟩ ⟨hi, hk, hx, hg⟩ js
  have hi : i ≤ l.length := hi
  refine ⟨fun hb => ?_, fun hb => ?_⟩
  · replace hb := of_decide_eq_true hb
    have hlt : i < l.length := by omega
    have hget : l[i]? = some (l.getD i []) := by rw [List.getD_eq_getElem?_getD, List.getElem?_eq_getElem hlt]; rfl
    have h32i := h32 _ (List.mem_of_getElem? hget)
    have hcl := cat_take_leS l i
    have hcl2 := cat_len h32
    obtain ⟨a, rfl, hr⟩ := hsr.one hlt
    refine ⟨by omega, by omega, a, rfl, _, .inl hr, ?_⟩
    refine ⟨[0, 0], _, WSum_ok _ g (bs ++ num l.length ++ cat (l.take i)) 0 _ (l.getD i []) (by simp only [List.length_append]; omega) ⟨A, k, cap, xs, rfl, hk, hx, hg⟩, ?_⟩
    clear hk hx hg
    rw [if_pos ⟨rfl, h32i⟩, if_neg (fun h => h.2 h32i)]
    rintro _ _ ⟨A, k, cap, xs, rfl, hk, hx, hg⟩
    (intro z hz; obtain rfl : z = ((i + 1 : Nat) : Int) := (by first | (rw [IntKind.wrap_i64] at hz; omega) | (rw [IntKind.wrap_u64] at hz; omega) | omega); clear hz)
    exact ⟨rfl, (i + 1, (A, k, cap, xs)), ⟨hlt, by rw [cat_takeS hget, ← List.append_assoc]; exact hk, by rw [cat_takeS hget, ← List.append_assoc]; exact hx, hg⟩, by show l.length - (i + 1) < l.length - i; omega, ⟨rfl, trivial⟩, Ent.refl _, rfl⟩
  · replace hb := of_decide_eq_false hb
    obtain rfl : i = l.length := by omega
    rw [List.take_length] at hk hx
    refine ⟨_, Ent.refl _, A, k, cap, xs, rfl, ?_, ?_, hg⟩
    · rw [← List.append_assoc]; exact hk
    · rw [← List.append_assoc]; exact hx

set_option maxRecDepth 100000 in
set_option maxHeartbeats 2000000 in
theorem writeH_ok (R : Rd) (g p : Nat) (bs : Str) (h : Hp) (x : Hd) (B : Value) (w : WfH x) (hb : bs.length ≤ 100000000) (hw : IsW g bs 0 h) (hc : CellsAt R p (hdC x B)) (hs : Ss R B x.sums) :
    Fn Tryd.prog 145 [.pointer (some ⟨p, 0, .none⟩), .pointer (some ⟨g, 0, .none⟩)] h R (fun _ h' => IsW g (bs ++ encH x) 0 h') := by
  obtain ⟨a1, a2, a3, a4, a5, a6, a7, a8⟩ := w
  obtain ⟨A, k, cap, xs, rfl, hk, hx, hg⟩ := hw
  refine fn_of_vc mixed tabOk Tryd.func145 rfl (by kernel_rfl) (Nat.le_of_ble_eq_true rfl) ?_
  refine ⟨_, .inl (hc 0 _ rfl), ?_⟩
  refine ⟨[0, 0], _, WSum_ok _ g bs 0 _ x.st (by omega) ⟨A, k, cap, xs, rfl, hk, hx, hg⟩, ?_⟩
  clear hk hx hg
  rw [if_pos ⟨rfl, a4⟩, if_neg (fun h => h.2 a4)]
  obtain ⟨b1, e1⟩ : ∃ b, b = bs ++ x.st := ⟨_, rfl⟩
  rw [← e1]
  have : b1.length ≤ bs.length + 32 := by rw [e1, List.length_append]; omega
  rintro _ _ ⟨A, k, cap, xs, rfl, hk, hx, hg⟩
  refine ⟨_, .inl (hc 1 _ rfl), ?_⟩
  (intro z hz; obtain rfl : z = ((x.ix.toNat : Nat) : Int) := (by first | (rw [IntKind.wrap_i64] at hz; omega) | (rw [IntKind.wrap_u64] at hz; omega) | omega); clear hz)
  refine ⟨[0, 0], _, WUint_ok _ g b1 0 _ x.ix.toNat (by omega) (by omega) ⟨A, k, cap, xs, rfl, hk, hx, hg⟩, ?_⟩
  clear hk hx hg
  rw [if_pos rfl]
  obtain ⟨b2, e2⟩ : ∃ b, b = b1 ++ num x.ix.toNat := ⟨_, rfl⟩
  rw [← e2]
  have : b2.length ≤ b1.length + 10 := by rw [e2, List.length_append]; have := num_le10 (n := x.ix.toNat) (by omega); omega
  rintro _ _ ⟨A, k, cap, xs, rfl, hk, hx, hg⟩
  refine ⟨_, .inl (hc 2 _ rfl), ?_⟩
  (intro z hz; obtain rfl : z = ((x.sz.toNat : Nat) : Int) := (by first | (rw [IntKind.wrap_i64] at hz; omega) | (rw [IntKind.wrap_u64] at hz; omega) | omega); clear hz)
  refine ⟨[0, 0], _, WUint_ok _ g b2 0 _ x.sz.toNat (by omega) (by omega) ⟨A, k, cap, xs, rfl, hk, hx, hg⟩, ?_⟩
  clear hk hx hg
  rw [if_pos rfl]
  obtain ⟨b3, e3⟩ : ∃ b, b = b2 ++ num x.sz.toNat := ⟨_, rfl⟩
  rw [← e3]
  have : b3.length ≤ b2.length + 10 := by rw [e3, List.length_append]; have := num_le10 (n := x.sz.toNat) (by omega); omega
  rintro _ _ ⟨A, k, cap, xs, rfl, hk, hx, hg⟩
  refine ⟨_, .inl (hc 3 _ rfl), ?_⟩
  refine ⟨[0, 0], _, writeSums_ok _ g b3 _ x.sums B (by omega) (mem_sums a3) (by omega) ⟨A, k, cap, xs, rfl, hk, hx, hg⟩ (hs.rh _), ?_⟩
  clear hk hx hg
  rintro _ _ hw
  refine ⟨_, Ent.refl _, ?_⟩
  have e : bs ++ encH x = b3 ++ (num x.sums.length ++ cat x.sums) := by rw [e3, e2, e1]; simp only [encH, List.append_assoc]
  rw [e]; exact hw

set_option maxRecDepth 100000 in
set_option maxHeartbeats 2000000 in
theorem writeP_ok (R : Rd) (g q : Nat) (bs : Str) (h : Hp) (x : Pt) (D B : Value) (w : WfP x) (hb : bs.length ≤ 100000000) (hw : IsW g bs 0 h) (hc : CellsAt R q (ptC x D B)) (hd : Bs R D x.dt) (hs : Ss R B x.path) :
    Fn Tryd.prog 148 [.pointer (some ⟨q, 0, .none⟩), .pointer (some ⟨g, 0, .none⟩)] h R (fun _ h' => IsW g (bs ++ encP x) 0 h') := by
  obtain ⟨a1, a2, a3, a4, a5, a6, a7, a8, a9, a10⟩ := w
  obtain ⟨A, k, cap, xs, rfl, hk, hx, hg⟩ := hw
  have hu := num_le10 (n := x.dt.length) (by omega)
  refine fn_of_vc mixed tabOk Tryd.func148 rfl (by kernel_rfl) (Nat.le_of_ble_eq_true rfl) ?_
  refine ⟨_, .inl (hc 0 _ rfl), ?_⟩
  refine ⟨[0, 0], _, WSum_ok _ g bs 0 _ x.st (by omega) ⟨A, k, cap, xs, rfl, hk, hx, hg⟩, ?_⟩
  clear hk hx hg
  rw [if_pos ⟨rfl, a1⟩, if_neg (fun h => h.2 a1)]
  obtain ⟨b1, e1⟩ : ∃ b, b = bs ++ x.st := ⟨_, rfl⟩
  rw [← e1]
  have : b1.length ≤ bs.length + 32 := by rw [e1, List.length_append]; omega
  rintro _ _ ⟨A, k, cap, xs, rfl, hk, hx, hg⟩
  refine ⟨_, .inl (hc 1 _ rfl), ?_⟩
  (intro z hz; obtain rfl : z = ((x.ix.toNat : Nat) : Int) := (by first | (rw [IntKind.wrap_i64] at hz; omega) | (rw [IntKind.wrap_u64] at hz; omega) | omega); clear hz)
  refine ⟨[0, 0], _, WUint_ok _ g b1 0 _ x.ix.toNat (by omega) (by omega) ⟨A, k, cap, xs, rfl, hk, hx, hg⟩, ?_⟩
  clear hk hx hg
  rw [if_pos rfl]
  obtain ⟨b2, e2⟩ : ∃ b, b = b1 ++ num x.ix.toNat := ⟨_, rfl⟩
  rw [← e2]
  have : b2.length ≤ b1.length + 10 := by rw [e2, List.length_append]; have := num_le10 (n := x.ix.toNat) (by omega); omega
  rintro _ _ ⟨A, k, cap, xs, rfl, hk, hx, hg⟩
  refine ⟨_, .inl (hc 2 _ rfl), ?_⟩
  (intro z hz; obtain rfl : z = ((x.off.toNat : Nat) : Int) := (by first | (rw [IntKind.wrap_i64] at hz; omega) | (rw [IntKind.wrap_u64] at hz; omega) | omega); clear hz)
  refine ⟨[0, 0], _, WUint_ok _ g b2 0 _ x.off.toNat (by omega) (by omega) ⟨A, k, cap, xs, rfl, hk, hx, hg⟩, ?_⟩
  clear hk hx hg
  rw [if_pos rfl]
  obtain ⟨b3, e3⟩ : ∃ b, b = b2 ++ num x.off.toNat := ⟨_, rfl⟩
  rw [← e3]
  have : b3.length ≤ b2.length + 10 := by rw [e3, List.length_append]; have := num_le10 (n := x.off.toNat) (by omega); omega
  rintro _ _ ⟨A, k, cap, xs, rfl, hk, hx, hg⟩
  refine ⟨_, .inl (hc 3 _ rfl), ?_⟩
  have hd' := hd
  obtain ⟨A1, cap1, rfl, hc1, hd'⟩ := hd'
  refine ⟨[0, 0], _, WBytes_ok _ g b3 0 _ _ x.dt (by omega) ⟨A, k, cap, xs, rfl, hk, hx, hg⟩ (hd'.rh _), ?_⟩
  clear hk hx hg
  rw [if_pos rfl]
  obtain ⟨b4, e4⟩ : ∃ b, b = b3 ++ num x.dt.length ++ x.dt := ⟨_, rfl⟩
  rw [← e4]
  have : b4.length ≤ b3.length + 600 := by rw [e4, List.length_append, List.length_append]; omega
  rintro _ _ ⟨A, k, cap, xs, rfl, hk, hx, hg⟩
  refine ⟨_, .inl (hc 4 _ rfl), ?_⟩
  refine ⟨[0, 0], _, writeSums_ok _ g b4 _ x.path B (by omega) (mem_sums a10) (by omega) ⟨A, k, cap, xs, rfl, hk, hx, hg⟩ (hs.rh _), ?_⟩
  clear hk hx hg
  rintro _ _ hw
  refine ⟨_, Ent.refl _, ?_⟩
  have e : bs ++ encP x = b4 ++ (num x.path.length ++ cat x.path) := by rw [e4, e3, e2, e1]; simp only [encP, List.append_assoc]
  rw [e]; exact hw

/-- Bytes and an error. -/
def OutB (b : Str) (e : Int) (v : Value) (h : Hp) : Prop := ∃ A cap, v = .tuple ⟨[.slice A b.length cap, .int .i64 e]⟩ ∧ h = [.row A b.length cap 5 1 (BV b) (0, 0)] ∧ grow b.length A ∧ b.length ≤ cap
def encHo (x : Hd) : Str := if WfH x then encH x else []
def encPo (x : Pt) : Str := if WfP x then encP x else []
set_option maxRecDepth 100000 in
theorem EncodeHead_ok0 (R : Rd) (x : Hd) (B : Value) (hs : Ss R B x.sums) : Fn Tryd.prog 101 [.agg ⟨hdC x B⟩] [] R
    (fun v h => ∃ A cap, v = .tuple ⟨[.slice A (encHo x).length cap, .int .i64 (if WfH x then 0 else 1)]⟩ ∧ h = [.row A (encHo x).length cap 5 1 (BV (encHo x)) (0, 0)] ∧ grow (encHo x).length A) := by
  refine fn_of_vc mixed tabOk Tryd.func101 rfl (by kernel_rfl) (Nat.le_of_ble_eq_true rfl) ?_
  intro p
  refine ⟨[], _, wfH_ok _ p x B (CellsAt.own 0 rfl) (hs.rh _), ?_⟩
  rintro _ _ ⟨rfl, rfl⟩
  by_cases w : WfH x
  case neg =>
    rw [decide_eq_false w, if_neg w, encHo, if_neg w]
    repeat (first | (refine ⟨fun h => ?_, fun h => ?_⟩; rotate_left 1; (focus (exfalso; (first | (with_reducible (cases h; done)) | (revert h; simp; done) | (revert h; simp; omega) | (revert h; simp [*]; done)))); clear h) | (refine ⟨fun h => ?_, fun h => ?_⟩; (focus (exfalso; (first | (with_reducible (cases h; done)) | (revert h; simp; done) | (revert h; simp; omega) | (revert h; simp [*]; done)))); clear h))
    exact ⟨_, (Ent.nil _).trans (Ent.nilrow [] 5 1), .none, 0, rfl, rfl, .inl rfl⟩
  have hle := encH_le w
  rw [decide_eq_true w, if_pos w, encHo, if_pos w]
  repeat (first | (refine ⟨fun h => ?_, fun h => ?_⟩; rotate_left 1; (focus (exfalso; (first | (with_reducible (cases h; done)) | (revert h; simp; done) | (revert h; simp; omega) | (revert h; simp [*]; done)))); clear h) | (refine ⟨fun h => ?_, fun h => ?_⟩; (focus (exfalso; (first | (with_reducible (cases h; done)) | (revert h; simp; done) | (revert h; simp; omega) | (revert h; simp [*]; done)))); clear h))
  refine ⟨[], _, NewWriter_ok _, ?_⟩
  rintro _ _ ⟨g, rfl, A, k, cap, xs, rfl, hk, hx, hg⟩
  refine ⟨[1, 1], _, writeH_ok _ g p [] _ x B w (by simp) ⟨A, k, cap, xs, rfl, hk, hx, hg⟩ (CellsAt.own 0 rfl) (hs.rh _), ?_⟩
  clear hk hx hg
  rw [List.nil_append]
  rintro _ _ ⟨A, k, cap, xs, rfl, hk, hx, hg⟩
  refine ⟨[1, 1], _, WDone_ok _ g (encH x) 0 _ ⟨A, k, cap, xs, rfl, hk, hx, hg⟩, ?_⟩
  clear hk hx hg
  rintro _ _ ⟨sl, hw, hs, rfl, rfl, ⟨A, k, cap, xs, rfl, -, -, -⟩, ⟨A2, k2, cap2, xs2, rfl, rfl, hk2, hx2, hg2⟩⟩
  have e1 : doneB (encH x) 0 = encH x := by rw [doneB, if_pos ⟨rfl, by omega⟩]
  have e2 : doneE (encH x) 0 = 0 := by rw [doneE, if_pos rfl, if_pos (by omega)]
  rw [e1] at hk2 hx2
  rw [e2]
  subst hk2 hx2
  exact ⟨_, Ent.pick [3] rfl, A2, cap2, rfl, rfl, hg2⟩
theorem EncodeHead_ok (R : Rd) (x : Hd) (B : Value) (hs : Ss R B x.sums) : Fn Tryd.prog 101 [.agg ⟨hdC x B⟩] [] R (OutB (encHo x) (if WfH x then 0 else 1)) := by
  refine Fn.post (EncodeHead_ok0 R x B hs) ?_
  rintro _ _ w ⟨A', cap', rfl, rfl, hg⟩ o
  exact ⟨A', cap', rfl, rfl, hg, (row_cap o 0 rfl).1⟩
set_option maxRecDepth 100000 in
theorem EncodePart_ok0 (R : Rd) (x : Pt) (D B : Value) (hd : Bs R D x.dt) (hs : Ss R B x.path) : Fn Tryd.prog 103 [.agg ⟨ptC x D B⟩] [] R
    (fun v h => ∃ A cap, v = .tuple ⟨[.slice A (encPo x).length cap, .int .i64 (if WfP x then 0 else 1)]⟩ ∧ h = [.row A (encPo x).length cap 5 1 (BV (encPo x)) (0, 0)] ∧ grow (encPo x).length A) := by
  refine fn_of_vc mixed tabOk Tryd.func103 rfl (by kernel_rfl) (Nat.le_of_ble_eq_true rfl) ?_
  intro p
  have hd' : ∃ A cap, D = .slice A x.dt.length cap := by obtain ⟨A, cap, h, _⟩ := hd; exact ⟨A, cap, h⟩
  refine ⟨[], _, wfP_ok _ p x D B (CellsAt.own 0 rfl) hd' (hs.rh _), ?_⟩
  rintro _ _ ⟨rfl, rfl⟩
  by_cases w : WfP x
  case neg =>
    rw [decide_eq_false w, if_neg w, encPo, if_neg w]
    repeat (first | (refine ⟨fun h => ?_, fun h => ?_⟩; rotate_left 1; (focus (exfalso; (first | (with_reducible (cases h; done)) | (revert h; simp; done) | (revert h; simp; omega) | (revert h; simp [*]; done)))); clear h) | (refine ⟨fun h => ?_, fun h => ?_⟩; (focus (exfalso; (first | (with_reducible (cases h; done)) | (revert h; simp; done) | (revert h; simp; omega) | (revert h; simp [*]; done)))); clear h))
    exact ⟨_, (Ent.nil _).trans (Ent.nilrow [] 5 1), .none, 0, rfl, rfl, .inl rfl⟩
  have hle := encP_le w
  rw [decide_eq_true w, if_pos w, encPo, if_pos w]
  repeat (first | (refine ⟨fun h => ?_, fun h => ?_⟩; rotate_left 1; (focus (exfalso; (first | (with_reducible (cases h; done)) | (revert h; simp; done) | (revert h; simp; omega) | (revert h; simp [*]; done)))); clear h) | (refine ⟨fun h => ?_, fun h => ?_⟩; (focus (exfalso; (first | (with_reducible (cases h; done)) | (revert h; simp; done) | (revert h; simp; omega) | (revert h; simp [*]; done)))); clear h))
  refine ⟨[], _, NewWriter_ok _, ?_⟩
  rintro _ _ ⟨g, rfl, A, k, cap, xs, rfl, hk, hx, hg⟩
  refine ⟨[1, 1], _, writeP_ok _ g p [] _ x D B w (by simp) ⟨A, k, cap, xs, rfl, hk, hx, hg⟩ (CellsAt.own 0 rfl) (hd.rh _) (hs.rh _), ?_⟩
  clear hk hx hg
  rw [List.nil_append]
  rintro _ _ ⟨A, k, cap, xs, rfl, hk, hx, hg⟩
  refine ⟨[1, 1], _, WDone_ok _ g (encP x) 0 _ ⟨A, k, cap, xs, rfl, hk, hx, hg⟩, ?_⟩
  clear hk hx hg
  rintro _ _ ⟨sl, hw, hs, rfl, rfl, ⟨A, k, cap, xs, rfl, -, -, -⟩, ⟨A2, k2, cap2, xs2, rfl, rfl, hk2, hx2, hg2⟩⟩
  have e1 : doneB (encP x) 0 = encP x := by rw [doneB, if_pos ⟨rfl, by omega⟩]
  have e2 : doneE (encP x) 0 = 0 := by rw [doneE, if_pos rfl, if_pos (by omega)]
  rw [e1] at hk2 hx2
  rw [e2]
  subst hk2 hx2
  exact ⟨_, Ent.pick [3] rfl, A2, cap2, rfl, rfl, hg2⟩
theorem EncodePart_ok (R : Rd) (x : Pt) (D B : Value) (hd : Bs R D x.dt) (hs : Ss R B x.path) : Fn Tryd.prog 103 [.agg ⟨ptC x D B⟩] [] R (OutB (encPo x) (if WfP x then 0 else 1)) := by
  refine Fn.post (EncodePart_ok0 R x D B hd hs) ?_
  rintro _ _ w ⟨A', cap', rfl, rfl, hg⟩ o
  exact ⟨A', cap', rfl, rfl, hg, (row_cap o 0 rfl).1⟩

/-! ### decoding -/
def Hd0 : Hd := ⟨[], 0, 0, []⟩
def Pt0 : Pt := ⟨[], 0, 0, [], []⟩
theorem yV_le (m : Int) (d : Str) (s : RS) : (yV m d s).length ≤ d.length := by
  unfold yV
  split
  · refine Nat.le_trans ?_ (show (d.drop s.1).length ≤ d.length by rw [List.length_drop]; omega)
    unfold blkD
    have hle : (limD m (d.drop s.1)).2.2.length ≤ (d.drop s.1).length := by
      unfold limD
      cases hd : dec (d.drop s.1) with
      | none => exact Nat.zero_le _
      | some p =>
        obtain ⟨n, r⟩ := p
        have e := (dec_iff.1 hd).1
        show (if max m 0 < (n : Int) then ((2 : Int), 0, []) else (0, n, r)).2.2.length ≤ _
        by_cases hm : max m 0 < (n : Int)
        · rw [if_pos hm]; exact Nat.zero_le _
        · rw [if_neg hm, e, List.length_append]; show r.length ≤ _; omega
    split
    · split
      · exact Nat.zero_le _
      · show (List.take _ _).length ≤ _; rw [List.length_take]; omega
    · exact Nat.zero_le _
  · exact Nat.zero_le _

/-- A head out of bytes, or ErrSyntax. -/
def DecH (d : Str) (v : Value) (h : Hp) : Prop :=
  (¬ okH d ∧ v = .tuple ⟨[.agg ⟨hdC Hd0 (.slice .none 0 0)⟩, .int .i64 3]⟩ ∧ h = []) ∨
  (okH d ∧ ∃ A cap, v = .tuple ⟨[.agg ⟨hdC (hV d s00) (.slice A (hV d s00).sums.length cap)⟩, .int .i64 0]⟩ ∧ h = [.row A (hV d s00).sums.length cap 9 1 (SV (hV d s00).sums) (0, 0)] ∧ grow (hV d s00).sums.length A ∧ (hV d s00).sums.length ≤ cap)
theorem hV_sums (d : Str) (s : RS) : (hV d s).sums.length = cV 16 d (hs3 d s) := ssV_length _ _ _
theorem pV_path (d : Str) (s : RS) : (pV d s).path.length = cV 16 d (ps4 d s) := ssV_length _ _ _

/-- A part out of bytes, or ErrSyntax. -/
def DecP (d : Str) (v : Value) (h : Hp) : Prop :=
  (¬ okP d ∧ v = .tuple ⟨[.agg ⟨ptC Pt0 (.slice .none 0 0) (.slice .none 0 0)⟩, .int .i64 3]⟩ ∧ h = []) ∨
  (okP d ∧ ∃ A cap B cb, v = .tuple ⟨[.agg ⟨ptC (pV d s00) (.slice A (pV d s00).dt.length cap) (.slice B (pV d s00).path.length cb)⟩, .int .i64 0]⟩ ∧
    h = [.row A (pV d s00).dt.length cap 5 1 (BV (pV d s00).dt) (0, 0), .row B (pV d s00).path.length cb 9 1 (SV (pV d s00).path) (0, 0)] ∧
    grow (pV d s00).dt.length A ∧ (pV d s00).dt.length ≤ cap ∧ grow (pV d s00).path.length B ∧ (pV d s00).path.length ≤ cb)
end Go.Proofs.YtoddabjacjkjbaaDoor
