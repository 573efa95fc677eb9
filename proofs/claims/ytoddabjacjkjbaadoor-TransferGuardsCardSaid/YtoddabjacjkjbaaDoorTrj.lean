/-
  Transfer: contracts of the law's helpers: few, bytes, piece, example, same, sameHead, samePart; the reference's Show, Ints.
-/
import Derived.Test.YtoddabjacjkjbaaDoorTri
import Derived.Test.YtoddabjacjkjbaaDoorTrs
namespace Go.Proofs.YtoddabjacjkjbaaDoor
open Go Go.RowKit
set_option linter.unusedVariables false

theorem few42_ok (R : Rd) (A B : Option Addr) (n cap cb : Nat) (C : Option Addr) (m cc : Nat) (hs : SlR R 1 (.slice B 1 cb) 1 [.slice C m cc]) :
    Fn Tryd.prog 35 [.slice A n cap, .slice B 1 cb] [] R (fun v h => v = .bool (decide (m ≤ 20 ∧ n ≤ 2600)) ∧ h = []) := by
  obtain ⟨_, B', cb', e, hr⟩ := hs
  cases e
  obtain ⟨a, rfl, hr0⟩ := hr 0 _ rfl
  rw [addA_eq] at hr0
  have hr : R (addA a (Int.toNat ((0 : Nat) : Int) * 1)) (.slice C m cc) := hr0
  refine fn_of_vc mixed tabOk Tryd.func35 rfl (by kernel_rfl) (Nat.le_of_ble_eq_true rfl) ?_
  refine ⟨[none, none, none, none, some 4, some 5, some 6, some 7, some 8, some 9, some 10, some 11, some 12, some 13, some 14, some 15, some 16, some 17], [5], Nat, fun i => i = 0 ∨ (i = 1 ∧ m ≤ 20), fun i => [.int .i64 i], fun _ => [], fun i => 1 - i, 0, .inl rfl, ⟨rfl, trivial⟩, Ent.refl _, ?_⟩
  rintro i hi js
  refine ⟨fun hb => ?_, fun hb => ?_⟩
  · replace hb := of_decide_eq_true hb
    obtain rfl : i = 0 := by omega
    refine ⟨by omega, by omega, a, rfl, _, .inl hr, ?_⟩
    by_cases c : (20 : Int) < m
    · repeat (first | (refine ⟨fun h => ?_, fun h => ?_⟩; rotate_left 1; (focus (exfalso; (first | (with_reducible (cases h; done)) | (revert h; simp; done) | (revert h; simp; omega) | (revert h; simp [*]; done)))); clear h) | (refine ⟨fun h => ?_, fun h => ?_⟩; (focus (exfalso; (first | (with_reducible (cases h; done)) | (revert h; simp; done) | (revert h; simp; omega) | (revert h; simp [*]; done)))); clear h))
      exact ⟨_, Ent.refl _, no_D rfl (fun h => by omega), rfl⟩
    · repeat (first | (refine ⟨fun h => ?_, fun h => ?_⟩; rotate_left 1; (focus (exfalso; (first | (with_reducible (cases h; done)) | (revert h; simp; done) | (revert h; simp; omega) | (revert h; simp [*]; done)))); clear h) | (refine ⟨fun h => ?_, fun h => ?_⟩; (focus (exfalso; (first | (with_reducible (cases h; done)) | (revert h; simp; done) | (revert h; simp; omega) | (revert h; simp [*]; done)))); clear h))
      (intro z hz; obtain rfl : z = ((1 : Nat) : Int) := (by first | (rw [IntKind.wrap_i64] at hz; omega) | (rw [IntKind.wrap_u64] at hz; omega) | omega); clear hz)
      exact ⟨rfl, 1, .inr ⟨rfl, by omega⟩, by decide, ⟨rfl, trivial⟩, Ent.refl _, rfl⟩
  · replace hb := of_decide_eq_false hb
    have h1 : m ≤ 20 := by omega
    by_cases c : (n : Int) ≤ 2600
    · exact ⟨_, Ent.refl _, yes_D (decide_eq_true c) ⟨h1, by omega⟩, rfl⟩
    · exact ⟨_, Ent.refl _, no_D (decide_eq_false c) (fun h => by omega), rfl⟩

theorem xor_u8 {a b : UInt8} {z : Int} (h : z = bitsOp .xor .u8 a.toNat b.toNat) : z = ((a ^^^ b).toNat : Int) := by
  rw [h]
  show IntKind.u8.wrap ((BitVec.ofInt 8 (a.toNat : Int) ^^^ BitVec.ofInt 8 (b.toNat : Int)).toNat : Int) = _
  have e : ∀ c : UInt8, BitVec.ofInt 8 (c.toNat : Int) = c.toBitVec := fun c => by rw [BitVec.ofInt_natCast]; simp
  rw [e, e, IntKind.wrap_u8]
  have := (a ^^^ b).toNat_lt
  show ((a ^^^ b).toNat : Int) % 256 = _
  omega
theorem bytesL_length (n : Nat) (x : UInt8) : (bytesL n x).length = n := by simp [bytesL]
theorem bytesL_get {n i : Nat} {x : UInt8} (h : i < n) : (bytesL n x)[i]? = some (UInt8.ofNat (i / 7) ^^^ x) := by simp [bytesL, h]
theorem fill_set {l : Str} {n i : Nat} {b : UInt8} (hl : l.length = n) (h : i < n) (hb : l[i]? = some b) : (l.take i ++ List.replicate (n - i) 0).set i b = l.take (i + 1) ++ List.replicate (n - (i + 1)) 0 := by
  have hi : (l.take i).length = i := by rw [List.length_take]; omega
  rw [List.set_append_right _ _ (by omega), hi, Nat.sub_self, show n - i = (n - (i + 1)) + 1 by omega, List.replicate_succ, List.set_cons_zero, List.take_add_one, hb, List.append_assoc]; rfl
set_option maxRecDepth 100000 in
set_option maxHeartbeats 2000000 in
theorem bytes_ok0 (R : Rd) (n : Nat) (x : UInt8) (hn : n ≤ 1000000) : Fn Tryd.prog 38 [.int .i64 n, .int .u8 x.toNat] [] R
    (fun v h => ∃ A cap, v = .slice A (bytesL n x).length cap ∧ h = [.row A (bytesL n x).length cap 5 1 (BV (bytesL n x)) (0, 0)] ∧ grow (bytesL n x).length A) := by
  have hML := maxLen_eq
  refine fn_of_vc mixed tabOk Tryd.func38 rfl (by kernel_rfl) (Nat.le_of_ble_eq_true rfl) ?_
  refine ⟨by omega, by omega, by show (1 : Int) * n ≤ _; omega, by omega, fun g => ?_⟩
  refine ⟨[none, none, none, none, none, none, some 6, none, none, some 9, some 10, some 11, some 12, some 13, some 14, some 15, some 16, some 17, some 18, some 19, some 20, some 21], [6], Nat, fun i => i ≤ n, fun i => [.int .i64 i], fun i => [.row (some ⟨g, 0, .none⟩) n n 5 1 (BV ((bytesL n x).take i ++ List.replicate (n - i) 0)) (0, 0)], fun i => n - i, 0, Nat.zero_le _, ⟨rfl, trivial⟩, ?_, ?_⟩
  · show Ent [.row (some ⟨g, 0, .none⟩) n n 5 1 (repl [.int .u8 0] n) (0, 0)] _
    rw [repl_one]
    have e : BV ((bytesL n x).take 0 ++ List.replicate (n - 0) 0) = List.replicate n (.int .u8 0) := by simp [BV]
    show Ent _ [.row (some ⟨g, 0, .none⟩) n n 5 1 (BV ((bytesL n x).take 0 ++ List.replicate (n - 0) 0)) (0, 0)]
    rw [e]
    exact Ent.refl _
  intro i hi js
  refine ⟨fun hb => ?_, fun hb => ?_⟩
  · replace hb := of_decide_eq_true hb
    have hlt : i < n := by omega
    refine ⟨by decide, ?_⟩
    intro z hz
    obtain rfl := quo_nat (a := i) (b := 7) rfl (by omega) hz
    clear hz
    intro z hz
    obtain rfl := u8_of hz
    clear hz
    intro z hz
    obtain rfl := xor_u8 hz
    clear hz
    refine ⟨by omega, by omega, _, rfl, ?_⟩
    refine ⟨rfl, rfl, 0, nthK_mk rfl (str0 (by rw [BV_length, List.length_append, List.length_take, List.length_replicate, bytesL_length]; omega) ?_)⟩
    (intro z hz; obtain rfl : z = ((i + 1 : Nat) : Int) := (by first | (rw [IntKind.wrap_i64] at hz; omega) | (rw [IntKind.wrap_u64] at hz; omega) | omega); clear hz)
    refine ⟨rfl, i + 1, hlt, by show n - (i + 1) < n - i; omega, ⟨rfl, trivial⟩, ?_, rfl⟩
    have e : (BV ((bytesL n x).take i ++ List.replicate (n - i) 0)).set i (.int .u8 (UInt8.ofNat (i / 7) ^^^ x).toNat) = BV ((bytesL n x).take (i + 1) ++ List.replicate (n - (i + 1)) 0) := by
      rw [← fill_set (bytesL_length n x) hlt (bytesL_get hlt)]
      simp [BV, List.map_set]
    show Ent _ [.row (some ⟨g, 0, .none⟩) n n 5 1 (BV ((bytesL n x).take (i + 1) ++ List.replicate (n - (i + 1)) 0)) (0, 0)]
    rw [← e]
    exact Ent.refl _
  · replace hb := of_decide_eq_false hb
    obtain rfl : i = n := by omega
    refine ⟨_, Ent.refl _, some ⟨g, 0, .none⟩, i, ?_, ?_, .inr ⟨g, rfl⟩⟩
    · rw [bytesL_length]; rfl
    · show [HA.row (some ⟨g, 0, .none⟩) i i 5 1 (BV ((bytesL i x).take i ++ List.replicate (i - i) 0)) (0, 0)] = _
      rw [bytesL_length, List.take_of_length_le (by rw [bytesL_length]; omega), Nat.sub_self, List.replicate_zero, List.append_nil]
theorem bytes_ok (R : Rd) (n : Nat) (x : UInt8) (hn : n ≤ 1000000) : Fn Tryd.prog 38 [.int .i64 n, .int .u8 x.toNat] [] R (OwnBl · (bytesL n x) ·) := by
  refine Fn.post (bytes_ok0 R n x hn) ?_
  rintro _ _ w ⟨A', cap', rfl, rfl, hg⟩ o
  exact ⟨A', cap', rfl, rfl, hg, (row_cap o 0 rfl).1⟩

def pcF (dt : Str) (ix : Int) (i : Nat) : Str := if (i : Int) = ix then rootOf (blockLeaves 512 dt) else sha [UInt8.ofNat i]
def pcS (dt : Str) (ix : Int) (n : Nat) : List Str := (List.range n).map (pcF dt ix)
def pieceP (dt : Str) (ix : Int) (n : Nat) : Pc := ⟨rootOf (pcS dt ix n), ix, dt, pcS dt ix n⟩
theorem pcS_length (dt : Str) (ix : Int) (n : Nat) : (pcS dt ix n).length = n := by simp [pcS]
theorem pcS_succ (dt : Str) (ix : Int) (n : Nat) : pcS dt ix (n + 1) = pcS dt ix n ++ [pcF dt ix n] := by simp [pcS, List.range_succ]
theorem pcF_len (dt : Str) (ix : Int) (i : Nat) : (pcF dt ix i).length = 32 := by
  unfold pcF
  split
  · exact root_sum (blockLeaves_sums _ _ _ rfl)
  · exact sha_length _
theorem pcS_sums (dt : Str) (ix : Int) (n : Nat) : sumsB (pcS dt ix n) = true := sums_mem fun x hx => by
  obtain ⟨i, _, rfl⟩ := List.mem_map.1 hx
  exact pcF_len _ _ _
theorem piece_valid {dt : Str} {ix : Int} {n : Nat} (h1 : 1 ≤ n) (h2 : n ≤ 16) (h3 : 0 ≤ ix) (h4 : ix < n) (h5 : 1 ≤ dt.length) (h6 : dt.length ≤ 65536) : VPc (pieceP dt ix n) := by
  have hl := pcS_length dt ix n
  refine ⟨⟨by show 1 ≤ (pcS dt ix n).length; omega, by show (pcS dt ix n).length ≤ 16; omega, pcS_sums _ _ _, root_sum (pcS_sums _ _ _), h3, by show ix < ((pcS dt ix n).length : Int); omega, by show (1 : Int) ≤ dt.length; omega, by show (dt.length : Int) ≤ 65536; omega⟩, ?_, rfl⟩
  show rootOf (blockLeaves 512 dt) = (pcS dt ix n).getD ix.toNat []
  have hlt : ix.toNat < n := by omega
  rw [List.getD_eq_getElem?_getD]
  have : (pcS dt ix n)[ix.toNat]? = some (pcF dt ix ix.toNat) := by simp [pcS, hlt]
  rw [this]
  show _ = pcF dt ix ix.toNat
  unfold pcF
  rw [if_pos (by omega)]

set_option maxRecDepth 100000 in
set_option maxHeartbeats 4000000 in
theorem piece_ok0 (R : Rd) (dt : Str) (ix : Int) (n : Nat) (v : Value) (hn : n ≤ 16) (hdl : dt.length ≤ 1000000) (hd : Bs R v dt) : Fn Tryd.prog 37 [v, .int .i64 ix, .int .i64 n] [] R
    (fun v' h => ∃ C cc, v' = .agg ⟨pcC (pieceP dt ix n) v (.slice C (pcS dt ix n).length cc)⟩ ∧ h = [.row C (pcS dt ix n).length cc 9 1 (SV (pcS dt ix n)) (0, 0)] ∧ grow (pcS dt ix n).length C) := by
  have hML := maxLen_eq
  have hd' := hd
  obtain ⟨A, cap, rfl, hc, hdr⟩ := hd'
  refine fn_of_vc mixed tabOk Tryd.func37 rfl (by kernel_rfl) (Nat.le_of_ble_eq_true rfl) ?_
  intro g6
  refine ⟨rfl, fun g0 => ?_⟩
  refine ⟨[none, none, none, none, none, none, none, some 7, some 8, some 9, none, some 11, some 12, some 13, some 14, some 15, some 16, some 17, some 18, some 19, some 20, some 21, some 22, some 23, some 24, some 25, some 26, some 27, some 28, some 29, some 30, some 31], [7, 8], Nat × Option Addr × Nat × Nat × List Value, fun ⟨i, C, m, cc, xs⟩ => i ≤ n ∧ m = (pcS dt ix i).length ∧ xs = SV (pcS dt ix i) ∧ grow m C, fun ⟨i, C, m, cc, xs⟩ => [.slice C m cc, .int .i64 i],
    fun ⟨i, C, m, cc, xs⟩ => [.blk g6 28 (pcC ⟨[], 0, [], []⟩ (.slice .none 0 0) (.slice .none 0 0)), .row C m cc 9 1 xs (0, 0)], fun ⟨i, _⟩ => n - i, (0, some ⟨g0, 0, .none⟩, 0, 0, []), ⟨Nat.zero_le _, rfl, rfl, .inl rfl⟩, ⟨rfl, rfl, trivial⟩, Ent.refl _, ?_⟩
  rintro ⟨i, C, m, cc, xs⟩ ⟨hi, hm, hx, hg⟩ js
  have hi : i ≤ n := hi
  have hml := pcS_length dt ix i
  refine ⟨fun hb => ?_, fun hb => ?_⟩
  · replace hb := of_decide_eq_true hb
    have hlt : i < n := by omega
    intro z hz
    obtain rfl := u8_of hz
    clear hz
    refine ⟨rfl, fun g1 => ?_⟩
    refine ⟨[], _, refSum_ok _ [UInt8.ofNat i] _ (by show 1 ≤ _; omega) (SlR.own 2 rfl rfl (.inr ⟨g1, rfl⟩)), ?_⟩
    rintro _ _ ⟨rfl, rfl⟩
    by_cases hix : (i : Int) = ix
    · have hF : pcF dt ix i = rootOf (blockLeaves 512 dt) := if_pos hix
      generalize sha [UInt8.ofNat i] = si
      repeat (first | (refine ⟨fun h => ?_, fun h => ?_⟩; rotate_left 1; (focus (exfalso; (first | (with_reducible (cases h; done)) | (revert h; simp; done) | (revert h; simp; omega) | (revert h; simp [*]; done)))); clear h) | (refine ⟨fun h => ?_, fun h => ?_⟩; (focus (exfalso; (first | (with_reducible (cases h; done)) | (revert h; simp; done) | (revert h; simp; omega) | (revert h; simp [*]; done)))); clear h))
      refine ⟨[], _, refOf_ok _ dt A cap 512 (by omega) (by omega) hc (hdr.rh _), ?_⟩
      rintro _ _ ⟨rfl, rfl⟩
      rw [show ofV dt 512 = (pcF dt ix i, 0) by rw [hF]; rfl]
      refine ⟨rfl, fun g2 => ?_⟩
      refine ⟨SV [pcF dt ix i], rfl, SsR.src (l := [pcF dt ix i]) (SlR.own 3 rfl rfl (.inr ⟨g2, rfl⟩)), rfl, by show (_ + 1) * 16 ≤ _; omega, by omega, .inr ⟨1, rfl, rfl, rfl, rfl, rfl, rfl, fun C' cc' hg' => ?_⟩⟩
      (intro z hz; obtain rfl : z = ((i + 1 : Nat) : Int) := (by first | (rw [IntKind.wrap_i64] at hz; omega) | (rw [IntKind.wrap_u64] at hz; omega) | omega); clear hz)
      exact ⟨rfl, (i + 1, C', m + 1, cc', xs ++ SV [pcF dt ix i]), ⟨hlt, by rw [pcS_succ, List.length_append, hm]; rfl, by rw [pcS_succ, SV_append, hx], hg'⟩, by show n - (i + 1) < n - i; omega, ⟨rfl, rfl, trivial⟩, Ent.pick [0, 0] rfl, rfl⟩
    · have hF : pcF dt ix i = sha [UInt8.ofNat i] := if_neg hix
      rw [← hF]
      obtain ⟨si, hS⟩ : ∃ s, pcF dt ix i = s := ⟨_, rfl⟩
      rw [hS]
      repeat (first | (refine ⟨fun h => ?_, fun h => ?_⟩; rotate_left 1; (focus (exfalso; (first | (with_reducible (cases h; done)) | (revert h; simp; done) | (revert h; simp; omega) | (revert h; simp [*]; done)))); clear h) | (refine ⟨fun h => ?_, fun h => ?_⟩; (focus (exfalso; (first | (with_reducible (cases h; done)) | (revert h; simp; done) | (revert h; simp; omega) | (revert h; simp [*]; done)))); clear h))
      refine ⟨rfl, fun g2 => ?_⟩
      refine ⟨SV [si], rfl, SsR.src (l := [si]) (SlR.own 3 rfl rfl (.inr ⟨g2, rfl⟩)), rfl, by show (_ + 1) * 16 ≤ _; omega, by omega, .inr ⟨1, rfl, rfl, rfl, rfl, rfl, rfl, fun C' cc' hg' => ?_⟩⟩
      (intro z hz; obtain rfl : z = ((i + 1 : Nat) : Int) := (by first | (rw [IntKind.wrap_i64] at hz; omega) | (rw [IntKind.wrap_u64] at hz; omega) | omega); clear hz)
      exact ⟨rfl, (i + 1, C', m + 1, cc', xs ++ SV [si]), ⟨hlt, by rw [pcS_succ, List.length_append, hm, hS]; rfl, by rw [pcS_succ, SV_append, hx, hS], hg'⟩, by show n - (i + 1) < n - i; omega, ⟨rfl, rfl, trivial⟩, Ent.pick [0, 0] rfl, rfl⟩
  · replace hb := of_decide_eq_false hb
    obtain rfl : i = n := by omega
    subst hm hx
    refine ⟨[1], _, fn_row 0 rfl (callable Tryd.func100 rfl (by kernel_rfl)) fun hcap _ => Fn.frame (h := []) (k := [_]) (refRoot_ok _ _ (pcS dt ix i) _ rfl (wf_small (by omega) (pcS_sums _ _ _)) (ss_own 0 rfl hg hcap)), ?_⟩
    rintro _ _ ⟨_, rfl, rfl, rfl⟩
    refine ⟨rfl, rfl, 0, rfl, rfl, Nat.le_of_ble_eq_true rfl, ?_⟩
    refine ⟨_, rdOff (o := 0) (n := 4) 0 rfl rfl, rfl, ?_⟩
    exact ⟨_, Ent.pick [1] rfl, C, cc, rfl, rfl, hg⟩
theorem piece_ok (R : Rd) (dt : Str) (ix : Int) (n : Nat) (v : Value) (hn : n ≤ 16) (hdl : dt.length ≤ 1000000) (hd : Bs R v dt) : Fn Tryd.prog 37 [v, .int .i64 ix, .int .i64 n] [] R
    (fun v' h => ∃ C cc, v' = .agg ⟨pcC (pieceP dt ix n) v (.slice C (pcS dt ix n).length cc)⟩ ∧ h = [.row C (pcS dt ix n).length cc 9 1 (SV (pcS dt ix n)) (0, 0)] ∧ grow (pcS dt ix n).length C ∧ (pcS dt ix n).length ≤ cc) := by
  refine Fn.post (piece_ok0 R dt ix n v hn hdl hd) ?_
  rintro _ _ w ⟨A', cap', rfl, rfl, hg⟩ o
  exact ⟨A', cap', rfl, rfl, hg, (row_cap o 0 rfl).1⟩

end Go.Proofs.YtoddabjacjkjbaaDoor
