/-
  The law WireCopies: neither a writer nor a reader shares memory with the slices that it takes and returns; the walk.
-/
import Derived.Test.YtknilabilihlnaaWro
namespace Go.Proofs.Ytknilabilihlnaa
open Go Go.RowKit

theorem addA_own (g j : Nat) : addA ⟨g, 0, .none⟩ j = ⟨g, j, .none⟩ := by rw [← addA_eq, add_zero_addr]
theorem set_BV {ys : List UInt8} {i : Nat} {z : Int} (_ : i < ys.length) (h0 : 0 ≤ z) (h1 : z ≤ 255) : setRange (BV ys) (Int.toNat (i : Int) * 1) [.int .u8 z] = BV (ys.set i (UInt8.ofNat z.toNat)) := by
  rw [show Int.toNat (i : Int) * 1 = i by simp]
  show (BV ys).set i (.int .u8 z) = _
  rw [BV, BV, List.map_set, ← byte_of h0 h1]
theorem Ent.sub {a b : Hp} (h : b.Sublist a) : Ent a b := by
  obtain ⟨l, p⟩ := h.exists_perm_append
  exact (Ent.perm p).trans (Ent.drop b l)

set_option maxRecDepth 100000 in
set_option maxHeartbeats 16000000 in
theorem WireCopies_ok (R : Rd) (v : Value) (data : List UInt8) (hds : BsR R v data) :
    Fn Try.prog 8 [v] [] R (fun v _ => v = .bool true) := by
  obtain ⟨B0, cap1, rfl⟩ := hds.form
  have hML := maxLen_eq
  refine fn_of_vc mixed tabOk Try.func8 rfl (by kernel_rfl) (Nat.le_of_ble_eq_true rfl) ?_
  refine ⟨[], _, awake_ok _, ?_⟩
  rintro v' h' ⟨rfl, rfl⟩
  repeat (focus (refine ⟨fun h => ?_, fun h => ?_⟩; first | (focus (exfalso; first | (simp at h; done) | exact absurd (of_decide_eq_true h) (by assumption) | exact absurd (by assumption) (of_decide_eq_false h))) | (rotate_left; focus (exfalso; first | (simp at h; done) | exact absurd (of_decide_eq_true h) (by assumption) | exact absurd (by assumption) (of_decide_eq_false h))) | (focus (exfalso; simp at h; omega)) | (rotate_left; focus (exfalso; simp at h; omega)); clear h))
  by_cases hd : 100 < data.length
  · repeat (focus (refine ⟨fun h => ?_, fun h => ?_⟩; first | (focus (exfalso; first | (simp at h; done) | exact absurd (of_decide_eq_true h) (by assumption) | exact absurd (by assumption) (of_decide_eq_false h))) | (rotate_left; focus (exfalso; first | (simp at h; done) | exact absurd (of_decide_eq_true h) (by assumption) | exact absurd (by assumption) (of_decide_eq_false h))) | (focus (exfalso; simp at h; omega)) | (rotate_left; focus (exfalso; simp at h; omega)); clear h))
    exact ⟨_, Ent.nil _, rfl⟩
  repeat (focus (refine ⟨fun h => ?_, fun h => ?_⟩; first | (focus (exfalso; first | (simp at h; done) | exact absurd (of_decide_eq_true h) (by assumption) | exact absurd (by assumption) (of_decide_eq_false h))) | (rotate_left; focus (exfalso; first | (simp at h; done) | exact absurd (of_decide_eq_true h) (by assumption) | exact absurd (by assumption) (of_decide_eq_false h))) | (focus (exfalso; simp at h; omega)) | (rotate_left; focus (exfalso; simp at h; omega)); clear h))
  refine ⟨rfl, fun g1 => ?_⟩
  refine ⟨BV data, by rw [BV_length]; exact (Nat.mul_one _).symm, (hds.rh _).src, BV_one _, by show (_ + _) * 1 ≤ _; omega, by omega, .inr ⟨0, rfl, rfl, rfl, rfl, rfl, rfl, fun A1 c1 hg1 => ?_⟩⟩
  refine ⟨[], _, NewWriter_ok _, ?_⟩
  rintro v' h' ⟨g2, rfl, A2, k2, c2, x2, rfl, hk2, hx2, hg2⟩
  refine ⟨[1, 1], _, WBytes_ok _ g2 [] 0 _ _ data (by simp; omega) ⟨A2, k2, c2, x2, rfl, hk2, hx2, hg2⟩ (BsR.own 0 rfl (Nat.zero_add _) rfl hg1), ?_⟩
  clear hk2 hx2 hg2
  rintro v' h' hw'
  rw [if_pos rfl, List.nil_append] at hw'
  obtain ⟨A2, k2, c2, x2, rfl, hk2, hx2, hg2⟩ := hw'
  refine ⟨[], _, NewReader_ok _ _ data (by omega) (BsR.own 0 rfl (Nat.zero_add _) rfl hg1), ?_⟩
  rintro v' h' ⟨g3, rfl, A3, k3, c3, x3, rfl, hk3, hx3, hg3⟩
  obtain ⟨n1, hn1⟩ : ∃ n, n = 0 + data.length := ⟨_, rfl⟩
  rw [← hn1] at hg1 ⊢
  have hy1 : data.length = n1 := by omega
  refine ⟨[6, 29, 30, 31, 32, 33, 34, 35, 36, 37, 38, 39, 40], [6], Nat × List UInt8, fun ⟨i, ys⟩ => i ≤ n1 ∧ ys.length = n1, fun ⟨i, _⟩ => [.int .i64 i], fun ⟨_, ys⟩ => [.row A1 n1 c1 5 1 (BV ys) (0, 0), .blk g2 68 [.slice A2 k2 c2, .int .i64 0], .row A2 k2 c2 5 1 x2 (0, 0), .blk g3 70 [.slice A3 k3 c3, .int .i64 0, .int .i64 0, .int .i64 0], .row A3 k3 c3 5 1 x3 (0, 0)], fun ⟨i, _⟩ => n1 - i, (0, _), ⟨Nat.zero_le _, hy1⟩, ⟨rfl, trivial⟩, Ent.refl _, ?_⟩
  rintro ⟨i, ys⟩ ⟨hi, hyl⟩ js
  have hi : i ≤ n1 := hi
  have hyl : ys.length = n1 := hyl
  refine ⟨fun hb => ?_, fun hb => ?_⟩
  · replace hb := of_decide_eq_true hb
    have h1 : i < n1 := by omega
    obtain ⟨q, rfl⟩ := growA hg1 (by omega)
    have hxb : (BV ys)[i]? = some (.int .u8 (ys[i].toNat : Int)) := BV_get (List.getElem?_eq_getElem (by omega))
    generalize ys[i] = b at hxb
    have hb256 := UInt8.toNat_lt b
    refine ⟨by omega, by omega, _, rfl, ?_⟩
    refine ⟨_, ldr1 0 rfl hxb, ?_⟩
    intro z hz
    rw [IntKind.wrap_u8] at hz
    refine ⟨by omega, by omega, _, rfl, ?_⟩
    refine ⟨rfl, rfl, 0, by rw [addA_own], by rw [addA_own], by rw [addA_own, BV_length]; show Int.toNat (i : Int) * 1 + 1 ≤ _; omega, ?_⟩
    (intro z hz; obtain rfl := wr_i64 hz (by omega) (by omega); clear hz)
    exact ⟨rfl, (i + 1, ys.set i (UInt8.ofNat z.toNat)), ⟨by show i + 1 ≤ n1; omega, by show List.length _ = _; rw [List.length_set]; exact hyl⟩, by show n1 - (i + 1) < n1 - i; omega, ⟨rfl, trivial⟩, by rw [addA_own]; exact Ent.perm (List.Perm.of_eq (congrArg (fun x : List Value => ([.row (some ⟨q, 0, .none⟩) n1 c1 5 1 (x) (0, 0), .blk g2 68 [.slice A2 k2 c2, .int .i64 0], .row A2 k2 c2 5 1 x2 (0, 0), .blk g3 70 [.slice A3 k3 c3, .int .i64 0, .int .i64 0, .int .i64 0], .row A3 k3 c3 5 1 x3 (0, 0)] : Hp)) (set_BV (ys := ys) (i := i) (z := z) (by omega) (by omega) (by omega)))), rfl⟩
  replace hb := of_decide_eq_false hb
  generalize ys = ys1
  have hu10 := usize_le10 (n := data.length) (by omega)
  have hln := length_num data.length
  have e1 : doneB (num data.length ++ data) 0 = num data.length ++ data := by rw [doneB, if_pos ⟨rfl, by rw [List.length_append]; omega⟩]
  have e2 : doneE (num data.length ++ data) 0 = 0 := by rw [doneE, if_pos rfl, if_pos (by rw [List.length_append]; omega)]
  refine ⟨[1, 1], _, WDone_ok _ g2 (num data.length ++ data) 0 _ ⟨A2, k2, c2, x2, rfl, hk2, hx2, hg2⟩, ?_⟩
  clear hk2 hx2 hg2
  rintro v' h' ⟨s, hw, hs', rfl, rfl, ⟨A2, k2, c2, x2, rfl, hk2, hx2, hg2⟩, ⟨A4, n2, c4, x4, rfl, rfl, hk4, hx4, hg2'⟩⟩
  rw [e1] at hk4 hx4
  subst hx4
  have hy2 : (num data.length ++ data).length = n2 := hk4.symm
  have hn2 : n2 ≤ 110 := by rw [← hy2, List.length_append]; omega
  clear hi hyl hb
  refine ⟨[9, 46, 47, 48, 49, 50, 51, 52, 53, 54, 55, 56, 57], [9], Nat × List UInt8, fun ⟨i, ys⟩ => i ≤ n2 ∧ ys.length = n2, fun ⟨i, _⟩ => [.int .i64 i], fun ⟨_, ys⟩ => [.row A1 n1 c1 5 1 (BV ys1) (0, 0), .blk g3 70 [.slice A3 k3 c3, .int .i64 0, .int .i64 0, .int .i64 0], .row A3 k3 c3 5 1 x3 (0, 0), .blk g2 68 [.slice A2 k2 c2, .int .i64 0], .row A2 k2 c2 5 1 x2 (0, 0), .row A4 n2 c4 5 1 (BV ys) (0, 0)], fun ⟨i, _⟩ => n2 - i, (0, _), ⟨Nat.zero_le _, hy2⟩, ⟨rfl, trivial⟩, Ent.refl _, ?_⟩
  rintro ⟨i, ys⟩ ⟨hi, hyl⟩ js
  have hi : i ≤ n2 := hi
  have hyl : ys.length = n2 := hyl
  refine ⟨fun hb => ?_, fun hb => ?_⟩
  · replace hb := of_decide_eq_true hb
    have h1 : i < n2 := by omega
    obtain ⟨q, rfl⟩ := growA hg2' (by omega)
    have hxb : (BV ys)[i]? = some (.int .u8 (ys[i].toNat : Int)) := BV_get (List.getElem?_eq_getElem (by omega))
    generalize ys[i] = b at hxb
    have hb256 := UInt8.toNat_lt b
    refine ⟨by omega, by omega, _, rfl, ?_⟩
    refine ⟨_, ldr1 5 rfl hxb, ?_⟩
    intro z hz
    rw [IntKind.wrap_u8] at hz
    refine ⟨by omega, by omega, _, rfl, ?_⟩
    refine ⟨rfl, rfl, 5, by rw [addA_own], by rw [addA_own], by rw [addA_own, BV_length]; show Int.toNat (i : Int) * 1 + 1 ≤ _; omega, ?_⟩
    (intro z hz; obtain rfl := wr_i64 hz (by omega) (by omega); clear hz)
    exact ⟨rfl, (i + 1, ys.set i (UInt8.ofNat z.toNat)), ⟨by show i + 1 ≤ n2; omega, by show List.length _ = _; rw [List.length_set]; exact hyl⟩, by show n2 - (i + 1) < n2 - i; omega, ⟨rfl, trivial⟩, by rw [addA_own]; exact Ent.perm (List.Perm.of_eq (congrArg (fun x : List Value => ([.row A1 n1 c1 5 1 (BV ys1) (0, 0), .blk g3 70 [.slice A3 k3 c3, .int .i64 0, .int .i64 0, .int .i64 0], .row A3 k3 c3 5 1 x3 (0, 0), .blk g2 68 [.slice A2 k2 c2, .int .i64 0], .row A2 k2 c2 5 1 x2 (0, 0), .row (some ⟨q, 0, .none⟩) n2 c4 5 1 (x) (0, 0)] : Hp)) (set_BV (ys := ys) (i := i) (z := z) (by omega) (by omega) (by omega)))), rfl⟩
  replace hb := of_decide_eq_false hb
  refine ⟨[3, 3], _, WDone_ok _ g2 (num data.length ++ data) 0 _ ⟨A2, k2, c2, x2, rfl, hk2, hx2, hg2⟩, ?_⟩
  clear hk2 hx2 hg2
  rintro v' h' ⟨s, hw, hs', rfl, rfl, ⟨A2, k2, c2, x2, rfl, hk2, hx2, hg2⟩, ⟨A5, k5, c5, x5, rfl, rfl, hk5, hx5, hg5⟩⟩
  rw [e1] at hk5 hx5
  rw [e2]
  refine ⟨[], _, NewReader_ok _ _ (num data.length ++ data) (by rw [List.length_append]; omega) (BsR.own 6 rfl hk5 hx5 hg5), ?_⟩
  rintro v' h' ⟨g6, rfl, A6, k6, c6, x6, rfl, hk6, hx6, hg6⟩
  refine ⟨[7, 7], _, RBytes_ok _ g6 (num data.length ++ data) 0 0 0 _ 100 (by omega) (Nat.zero_le _) (by rw [List.length_append]; omega) ⟨A6, k6, c6, x6, rfl, hk6, hx6, hg6⟩, ?_⟩
  clear hk6 hx6 hg6
  rintro v' h' ⟨h2, hx', rfl, hown, ⟨A6, k6, c6, x6, rfl, -, -, -⟩⟩
  have hbl := blkD_num (s := data) (by omega) [] (most := 100) (by omega)
  rw [List.append_nil] at hbl
  rw [if_pos rfl, List.drop_zero, hbl] at hown
  obtain ⟨A7, k7, c7, x7, rfl, rfl, hkb, hxb, hgb⟩ := hown
  refine ⟨[2, 13, 14, 66, 67, 68, 69, 70, 71, 72, 73, 74, 75, 76, 77, 78, 79, 80, 81, 82, 83, 84, 85, 86, 87, 88, 89, 90, 91], [13, 14], Nat × Nat × Option Addr × Nat × Nat × List Value,
    fun ⟨i, _, A, k, _, xs⟩ => (i ≤ data.length ∧ ∀ q b, q < i → data[q]? = some b → b.toNat ≤ 1) ∧ k = data.length ∧ xs = BV data ∧ grow k A,
    fun ⟨i, _, _, _, _, _⟩ => [.int .i64 i, .int .i64 i],
    fun ⟨i, last, A, k, cap, xs⟩ => [.row A7 k7 c7 5 1 x7 (0, 0), .blk g3 70 [.slice A k cap, .int .i64 i, .int .i64 last, .int .i64 0], .row A k cap 5 1 xs (0, 0)],
    fun ⟨i, _, _, _, _, _⟩ => data.length - i, (0, 0, A3, k3, c3, x3), ⟨⟨Nat.zero_le _, fun q b hq => by omega⟩, hk3, hx3, hg3⟩, ⟨rfl, rfl, trivial⟩,
    (Ent.sub (b := [_, _, .row A7 k7 c7 5 1 x7 (0, 0)]) (.cons _ (.cons_cons _ (.cons_cons _ (.cons _ (.cons _ (.cons _ (.cons _ (.cons _ (.cons _ (.cons_cons _ .slnil))))))))))).trans (Ent.perm (List.perm_append_comm (l₁ := [_, _]) (l₂ := [_]))), ?_⟩
  clear hk3 hx3 hg3
  rintro ⟨i, last, A, k, cap, xs⟩ ⟨⟨hi, hall⟩, hk, hx, hg⟩ js
  by_cases hlt : i < data.length
  · repeat (focus (refine ⟨fun h => ?_, fun h => ?_⟩; first | (focus (exfalso; first | (simp at h; done) | exact absurd (of_decide_eq_true h) (by assumption) | exact absurd (by assumption) (of_decide_eq_false h))) | (rotate_left; focus (exfalso; first | (simp at h; done) | exact absurd (of_decide_eq_true h) (by assumption) | exact absurd (by assumption) (of_decide_eq_false h))) | (focus (exfalso; simp at h; omega)) | (rotate_left; focus (exfalso; simp at h; omega)); clear h))
    refine ⟨[1, 1], _, RLeft_ok _ g3 data i last 0 _ (by omega) (by omega) ⟨A, k, cap, xs, rfl, hk, hx, hg⟩, ?_⟩
    clear hk hx hg
    rintro v' h' ⟨rfl, A, k, cap, xs, rfl, hk, hx, hg⟩
    repeat (focus (refine ⟨fun h => ?_, fun h => ?_⟩; first | (focus (exfalso; first | (simp at h; done) | exact absurd (of_decide_eq_true h) (by assumption) | exact absurd (by assumption) (of_decide_eq_false h))) | (rotate_left; focus (exfalso; first | (simp at h; done) | exact absurd (of_decide_eq_true h) (by assumption) | exact absurd (by assumption) (of_decide_eq_false h))) | (focus (exfalso; simp at h; omega)) | (rotate_left; focus (exfalso; simp at h; omega)); clear h))
    (intro z hz; obtain rfl := wr_i64 hz (by omega) (by omega); clear hz)
    have hget : data[i]? = some data[i] := List.getElem?_eq_getElem hlt
    have hcons := List.drop_eq_getElem_cons hlt
    obtain ⟨c, rfl, hRc⟩ := hds.at_ hget
    generalize data[i] = b at hget hcons hRc
    have hb256 := UInt8.toNat_lt b
    refine ⟨by omega, by omega, c, rfl, ?_⟩
    refine ⟨_, ro (ld1 hRc), ?_⟩
    by_cases hb1 : 1 < b.toNat
    · repeat (focus (refine ⟨fun h => ?_, fun h => ?_⟩; first | (focus (exfalso; first | (simp at h; done) | exact absurd (of_decide_eq_true h) (by assumption) | exact absurd (by assumption) (of_decide_eq_false h))) | (rotate_left; focus (exfalso; first | (simp at h; done) | exact absurd (of_decide_eq_true h) (by assumption) | exact absurd (by assumption) (of_decide_eq_false h))) | (focus (exfalso; simp at h; omega)) | (rotate_left; focus (exfalso; simp at h; omega)); clear h))
      repeat (focus (refine ⟨fun h => ?_, fun h => ?_⟩; first | (focus (exfalso; first | (simp at h; done) | exact absurd (of_decide_eq_true h) (by assumption) | exact absurd (by assumption) (of_decide_eq_false h))) | (rotate_left; focus (exfalso; first | (simp at h; done) | exact absurd (of_decide_eq_true h) (by assumption) | exact absurd (by assumption) (of_decide_eq_false h))) | (focus (exfalso; simp at h; omega)) | (rotate_left; focus (exfalso; simp at h; omega)); clear h))
      refine ⟨[], _, same_ok _ _ _ data data (BsR.own 0 rfl hkb hxb hgb) (hds.rh _) (by omega), ?_⟩
      rintro v' h' ⟨rfl, rfl⟩
      repeat (focus (refine ⟨fun h => ?_, fun h => ?_⟩; first | (focus (exfalso; first | (simp at h; done) | exact absurd (of_decide_eq_true h) (by assumption) | exact absurd (by assumption) (of_decide_eq_false h))) | (rotate_left; focus (exfalso; first | (simp at h; done) | exact absurd (of_decide_eq_true h) (by assumption) | exact absurd (by assumption) (of_decide_eq_false h))) | (focus (exfalso; simp at h; omega)) | (rotate_left; focus (exfalso; simp at h; omega)); clear h))
      have hz' : ¬ (data.length : Int) = 0 := by omega
      repeat (focus (refine ⟨fun h => ?_, fun h => ?_⟩; first | (focus (exfalso; first | (simp at h; done) | exact absurd (of_decide_eq_true h) (by assumption) | exact absurd (by assumption) (of_decide_eq_false h))) | (rotate_left; focus (exfalso; first | (simp at h; done) | exact absurd (of_decide_eq_true h) (by assumption) | exact absurd (by assumption) (of_decide_eq_false h))) | (focus (exfalso; simp at h; omega)) | (rotate_left; focus (exfalso; simp at h; omega)); clear h))
      refine ⟨_, Ent.nil _, ?_⟩
      first | rfl | (show Value.bool (decide _) = _; rw [decide_eq_true (by omega)])
    repeat (focus (refine ⟨fun h => ?_, fun h => ?_⟩; first | (focus (exfalso; first | (simp at h; done) | exact absurd (of_decide_eq_true h) (by assumption) | exact absurd (by assumption) (of_decide_eq_false h))) | (rotate_left; focus (exfalso; first | (simp at h; done) | exact absurd (of_decide_eq_true h) (by assumption) | exact absurd (by assumption) (of_decide_eq_false h))) | (focus (exfalso; simp at h; omega)) | (rotate_left; focus (exfalso; simp at h; omega)); clear h))
    refine ⟨[], (.q 0 (.q 2 (.q 3 (.q 4 (.q 5 (.q 6 (.one 1 (.q 7 .nil)))))))), by kernel_rfl, ?_⟩
    refine ⟨by omega, by omega, c, rfl, ?_⟩
    refine ⟨_, ro (ld1 hRc), ?_⟩
    refine ⟨[1, 1], _, RBool_ok _ g3 data i last 0 _ (by omega) (by omega) ⟨A, k, cap, xs, rfl, hk, hx, hg⟩, ?_⟩
    clear hk hx hg
    rintro v' h' ⟨rfl, hn⟩
    have hbd : boolD (data.drop i) = (0, decide (b.toNat = 1), data.drop (i + 1)) := by rw [hcons, boolD, if_neg hb1]
    have hnx : nxt data i last 0 0 (data.drop (i + 1)) = (i + 1, i, 0) := by
      rw [nxt, if_pos rfl, if_pos rfl, List.length_drop]
      have : data.length - (data.length - (i + 1)) = i + 1 := by omega
      rw [this]
    rw [hbd, hnx] at hn
    obtain ⟨A, k, cap, xs, rfl, hk, hx, hg⟩ := hn
    rw [if_pos rfl, hbd]
    by_cases hb2 : b.toNat = 1
    · have e3 : decide (b.toNat = 1) = true := decide_eq_true hb2
      have e4 : decide ((b.toNat : Int) = 1) = true := decide_eq_true (by omega)
      repeat (focus (refine ⟨fun h => ?_, fun h => ?_⟩; first | (focus (exfalso; first | (simp at h; done) | exact absurd (of_decide_eq_true h) (by assumption) | exact absurd (by assumption) (of_decide_eq_false h))) | (rotate_left; focus (exfalso; first | (simp at h; done) | exact absurd (of_decide_eq_true h) (by assumption) | exact absurd (by assumption) (of_decide_eq_false h))) | (focus (exfalso; simp at h; omega)) | (rotate_left; focus (exfalso; simp at h; omega)); clear h))
      (intro z hz; obtain rfl := wr_i64 hz (by omega) (by omega); clear hz)
      exact ⟨rfl, (i + 1, i, A, k, cap, xs), ⟨⟨by omega, fun q b' hq hb' => by
        by_cases hqi : q = i
        · subst hqi; rw [hget] at hb'; cases hb'; omega
        · exact hall q b' (by omega) hb'⟩, hk, hx, hg⟩, by show data.length - (i + 1) < data.length - i; omega, ⟨rfl, rfl, trivial⟩, Ent.refl _, rfl⟩
    · have e3 : decide (b.toNat = 1) = false := decide_eq_false hb2
      have e4 : decide ((b.toNat : Int) = 1) = false := decide_eq_false (by omega)
      repeat (focus (refine ⟨fun h => ?_, fun h => ?_⟩; first | (focus (exfalso; first | (simp at h; done) | exact absurd (of_decide_eq_true h) (by assumption) | exact absurd (by assumption) (of_decide_eq_false h))) | (rotate_left; focus (exfalso; first | (simp at h; done) | exact absurd (of_decide_eq_true h) (by assumption) | exact absurd (by assumption) (of_decide_eq_false h))) | (focus (exfalso; simp at h; omega)) | (rotate_left; focus (exfalso; simp at h; omega)); clear h))
      (intro z hz; obtain rfl := wr_i64 hz (by omega) (by omega); clear hz)
      exact ⟨rfl, (i + 1, i, A, k, cap, xs), ⟨⟨by omega, fun q b' hq hb' => by
        by_cases hqi : q = i
        · subst hqi; rw [hget] at hb'; cases hb'; omega
        · exact hall q b' (by omega) hb'⟩, hk, hx, hg⟩, by show data.length - (i + 1) < data.length - i; omega, ⟨rfl, rfl, trivial⟩, Ent.refl _, rfl⟩
  · have hie : i = data.length := by omega
    repeat (focus (refine ⟨fun h => ?_, fun h => ?_⟩; first | (focus (exfalso; first | (simp at h; done) | exact absurd (of_decide_eq_true h) (by assumption) | exact absurd (by assumption) (of_decide_eq_false h))) | (rotate_left; focus (exfalso; first | (simp at h; done) | exact absurd (of_decide_eq_true h) (by assumption) | exact absurd (by assumption) (of_decide_eq_false h))) | (focus (exfalso; simp at h; omega)) | (rotate_left; focus (exfalso; simp at h; omega)); clear h))
    repeat (focus (refine ⟨fun h => ?_, fun h => ?_⟩; first | (focus (exfalso; first | (simp at h; done) | exact absurd (of_decide_eq_true h) (by assumption) | exact absurd (by assumption) (of_decide_eq_false h))) | (rotate_left; focus (exfalso; first | (simp at h; done) | exact absurd (of_decide_eq_true h) (by assumption) | exact absurd (by assumption) (of_decide_eq_false h))) | (focus (exfalso; simp at h; omega)) | (rotate_left; focus (exfalso; simp at h; omega)); clear h))
    refine ⟨[], _, same_ok _ _ _ data data (BsR.own 0 rfl hkb hxb hgb) (hds.rh _) (by omega), ?_⟩
    rintro v' h' ⟨rfl, rfl⟩
    repeat (focus (refine ⟨fun h => ?_, fun h => ?_⟩; first | (focus (exfalso; first | (simp at h; done) | exact absurd (of_decide_eq_true h) (by assumption) | exact absurd (by assumption) (of_decide_eq_false h))) | (rotate_left; focus (exfalso; first | (simp at h; done) | exact absurd (of_decide_eq_true h) (by assumption) | exact absurd (by assumption) (of_decide_eq_false h))) | (focus (exfalso; simp at h; omega)) | (rotate_left; focus (exfalso; simp at h; omega)); clear h))
    by_cases hz : data.length = 0
    · have hz' : (data.length : Int) = 0 := by omega
      repeat (focus (refine ⟨fun h => ?_, fun h => ?_⟩; first | (focus (exfalso; first | (simp at h; done) | exact absurd (of_decide_eq_true h) (by assumption) | exact absurd (by assumption) (of_decide_eq_false h))) | (rotate_left; focus (exfalso; first | (simp at h; done) | exact absurd (of_decide_eq_true h) (by assumption) | exact absurd (by assumption) (of_decide_eq_false h))) | (focus (exfalso; simp at h; omega)) | (rotate_left; focus (exfalso; simp at h; omega)); clear h))
      refine ⟨_, Ent.nil _, ?_⟩
      first | rfl | (show Value.bool (decide _) = _; rw [decide_eq_true (by omega)])
    · have hz' : ¬ (data.length : Int) = 0 := by omega
      repeat (focus (refine ⟨fun h => ?_, fun h => ?_⟩; first | (focus (exfalso; first | (simp at h; done) | exact absurd (of_decide_eq_true h) (by assumption) | exact absurd (by assumption) (of_decide_eq_false h))) | (rotate_left; focus (exfalso; first | (simp at h; done) | exact absurd (of_decide_eq_true h) (by assumption) | exact absurd (by assumption) (of_decide_eq_false h))) | (focus (exfalso; simp at h; omega)) | (rotate_left; focus (exfalso; simp at h; omega)); clear h))
      refine ⟨_, Ent.nil _, ?_⟩
      first | rfl | (show Value.bool (decide _) = _; rw [decide_eq_true (by omega)])

theorem WireCopies_law (R : Rd) (v0 : Value) (s0 : SeenV R (.sl 1 (.int .u8)) v0) :
    Fn Try.prog 8 [v0] [] R (fun v _ => v = .bool true) := by
  obtain ⟨data, _, hd⟩ := s0.bytes
  exact WireCopies_ok R v0 data hd

end Go.Proofs.Ytknilabilihlnaa
