/-
  The law WireSticks: after an error a reader reads zero values and stays as it is; the walk.
-/
import Derived.Test.YtknilabilihlnaaWrn
namespace Go.Proofs.Ytknilabilihlnaa
open Go Go.RowKit

theorem getN_le {data : List UInt8} {st : Nat × Nat × Int} {k most : Int} (h : st.1 ≤ data.length ∧ st.2.1 ≤ data.length) : (getN data st k most).1 ≤ data.length ∧ (getN data st k most).2.1 ≤ data.length := by
  unfold getN
  split
  · split
    · exact ⟨h.2, h.2⟩
    · exact h
  split
  · unfold nxt
    split
    · split
      · exact ⟨Nat.sub_le _ _, h.1⟩
      · exact ⟨h.1, h.1⟩
    · exact h
  · exact h
theorem getN_stay {data : List UInt8} {off last : Nat} {e k most : Int} (h : e ≠ 0) : getN data (off, last, e) k most = (off, last, e) := by
  unfold getN
  split
  · rfl
  split
  · show nxt data off last e _ _ = _
    rw [nxt, if_neg h]
  · rfl

set_option maxRecDepth 100000 in
set_option maxHeartbeats 16000000 in
theorem WireSticks_ok (R : Rd) (v w u : Value) (data : List UInt8) (l m : List Item) (hoks : ∀ x ∈ l, x.Ok) (homs : ∀ x ∈ m, x.Ok) (hds : BsR R v data) (hs : ItemsR R w l) (ht : ItemsR R u m) :
    Fn Try.prog 10 [v, w, u] [] R (fun v _ => v = .bool true) := by
  obtain ⟨B0, cap1, rfl⟩ := hds.form
  obtain ⟨A0, cap0, rfl⟩ := hs.form
  obtain ⟨C0, cap2, rfl⟩ := ht.form
  refine fn_of_vc mixed tabOk Try.func10 rfl (by kernel_rfl) (Nat.le_of_ble_eq_true rfl) ?_
  refine ⟨[], _, awake_ok _, ?_⟩
  rintro v' h' ⟨rfl, rfl⟩
  repeat (focus (refine ⟨fun h => ?_, fun h => ?_⟩; first | (focus (exfalso; first | (simp at h; done) | exact absurd (of_decide_eq_true h) (by assumption) | exact absurd (by assumption) (of_decide_eq_false h))) | (rotate_left; focus (exfalso; first | (simp at h; done) | exact absurd (of_decide_eq_true h) (by assumption) | exact absurd (by assumption) (of_decide_eq_false h))) | (focus (exfalso; simp at h; omega)) | (rotate_left; focus (exfalso; simp at h; omega)); clear h))
  by_cases hd : 1000 < data.length
  · repeat (focus (refine ⟨fun h => ?_, fun h => ?_⟩; first | (focus (exfalso; first | (simp at h; done) | exact absurd (of_decide_eq_true h) (by assumption) | exact absurd (by assumption) (of_decide_eq_false h))) | (rotate_left; focus (exfalso; first | (simp at h; done) | exact absurd (of_decide_eq_true h) (by assumption) | exact absurd (by assumption) (of_decide_eq_false h))) | (focus (exfalso; simp at h; omega)) | (rotate_left; focus (exfalso; simp at h; omega)); clear h))
    exact ⟨_, Ent.nil _, rfl⟩
  by_cases hl : 40 < l.length
  · repeat (focus (refine ⟨fun h => ?_, fun h => ?_⟩; first | (focus (exfalso; first | (simp at h; done) | exact absurd (of_decide_eq_true h) (by assumption) | exact absurd (by assumption) (of_decide_eq_false h))) | (rotate_left; focus (exfalso; first | (simp at h; done) | exact absurd (of_decide_eq_true h) (by assumption) | exact absurd (by assumption) (of_decide_eq_false h))) | (focus (exfalso; simp at h; omega)) | (rotate_left; focus (exfalso; simp at h; omega)); clear h))
    exact ⟨_, Ent.nil _, rfl⟩
  by_cases hm : 40 < m.length
  · repeat (focus (refine ⟨fun h => ?_, fun h => ?_⟩; first | (focus (exfalso; first | (simp at h; done) | exact absurd (of_decide_eq_true h) (by assumption) | exact absurd (by assumption) (of_decide_eq_false h))) | (rotate_left; focus (exfalso; first | (simp at h; done) | exact absurd (of_decide_eq_true h) (by assumption) | exact absurd (by assumption) (of_decide_eq_false h))) | (focus (exfalso; simp at h; omega)) | (rotate_left; focus (exfalso; simp at h; omega)); clear h))
    exact ⟨_, Ent.nil _, rfl⟩
  repeat (focus (refine ⟨fun h => ?_, fun h => ?_⟩; first | (focus (exfalso; first | (simp at h; done) | exact absurd (of_decide_eq_true h) (by assumption) | exact absurd (by assumption) (of_decide_eq_false h))) | (rotate_left; focus (exfalso; first | (simp at h; done) | exact absurd (of_decide_eq_true h) (by assumption) | exact absurd (by assumption) (of_decide_eq_false h))) | (focus (exfalso; simp at h; omega)) | (rotate_left; focus (exfalso; simp at h; omega)); clear h))
  refine ⟨[], _, NewReader_ok _ _ data (by omega) (hds.rh _), ?_⟩
  rintro v' h' ⟨g, rfl, A, k, cap, xs, rfl, hk, hx, hg⟩
  refine ⟨[8, 33, 34, 35, 36, 37, 38, 39, 40, 41, 42, 43, 44, 45, 46, 47, 48, 49, 50], [8],
    Nat × (Nat × Nat × Int) × Option Addr × Nat × Nat × List Value,
    fun ⟨i, st, A, k, _, xs⟩ => i ≤ l.length ∧ (st.1 ≤ data.length ∧ st.2.1 ≤ data.length) ∧ k = data.length ∧ xs = BV data ∧ grow k A,
    fun ⟨i, _, _, _, _, _⟩ => [.int .i64 i],
    fun ⟨_, st, A, k, cap, xs⟩ => [.blk g 70 [.slice A k cap, .int .i64 st.1, .int .i64 st.2.1, .int .i64 st.2.2], .row A k cap 5 1 xs (0, 0)],
    fun ⟨i, _, _, _, _, _⟩ => l.length - i, (0, (0, 0, 0), A, k, cap, xs), ⟨by omega, ⟨Nat.zero_le _, Nat.zero_le _⟩, hk, hx, hg⟩, ⟨rfl, trivial⟩, Ent.refl _, ?_⟩
  clear hk hx hg
  rintro ⟨i, ⟨off, last, e⟩, A, k, cap, xs⟩ ⟨hi, ho, hk, hx, hg⟩ js
  have ho1 : off ≤ data.length := ho.1
  have ho2 : last ≤ data.length := ho.2
  refine ⟨fun hb => ?_, fun hb => ?_⟩
  · replace hb := of_decide_eq_true hb
    have h1 : i < l.length := by omega
    obtain ⟨c, rfl, hRa⟩ := hs.at_ (List.getElem?_eq_getElem h1)
    have hok := hoks _ (List.getElem_mem h1)
    generalize l[i] = x at hRa hok
    refine ⟨[], (.q 0 (.q 1 (.q 2 (.q 3 (.q 4 (.q 5 (.q 6 (.q 7 (.q 8 (.q 9 (.q 10 (.one 11 .nil)))))))))))), by kernel_rfl, ?_⟩
    refine ⟨by omega, by omega, c, rfl, ?_⟩
    refine ⟨_, ro (fld (hRa 0 _ rfl)), ?_⟩
    refine ⟨by omega, by omega, c, rfl, ?_⟩
    refine ⟨_, ro (fld (hRa 5 _ rfl)), ?_⟩
    refine ⟨[0, 0], _, get_ok _ g data off last e _ x.k x.m hok.m2 ho1 (by omega) ⟨A, k, cap, xs, rfl, hk, hx, hg⟩, ?_⟩
    clear hk hx hg
    rintro v' h' ⟨rfl, A, k, cap, xs, rfl, hk, hx, hg⟩
    (intro z hz; obtain rfl := wr_i64 hz (by omega) (by omega); clear hz)
    exact ⟨rfl, (i + 1, getN data (off, last, e) x.k x.m, A, k, cap, xs), ⟨by omega, getN_le ho, hk, hx, hg⟩, by show l.length - (i + 1) < l.length - i; omega, ⟨rfl, trivial⟩, Ent.refl _, rfl⟩
  · replace hb := of_decide_eq_false hb
    clear hb hi
    refine ⟨[0, 0], _, RFail_ok _ g data off last e _ ⟨A, k, cap, xs, rfl, hk, hx, hg⟩, ?_⟩
    clear hk hx hg
    rintro v' h' hF
    obtain ⟨off2, last2, e2, hst, ho3, he2⟩ : ∃ (off2 last2 : Nat) (e2 : Int), (if e = 0 then (last, last, (3 : Int)) else (off, last, e)) = (off2, last2, e2) ∧ off2 ≤ data.length ∧ e2 ≠ 0 := by
      by_cases he : e = 0
      · exact ⟨last, last, 3, by rw [if_pos he], ho2, by decide⟩
      · exact ⟨off, last, e, by rw [if_neg he], ho1, he⟩
    rw [hst] at hF
    clear hst ho ho1 ho2
    obtain ⟨A, k, cap, xs, rfl, hk, hx, hg⟩ := hF
    refine ⟨[0, 0], _, RLeft_ok _ g data off2 last2 e2 _ ho3 (by omega) ⟨A, k, cap, xs, rfl, hk, hx, hg⟩, ?_⟩
    clear hk hx hg
    rintro v' h' ⟨rfl, A, k, cap, xs, rfl, hk, hx, hg⟩
    refine ⟨[0, 0], _, REnd_ok _ g data off2 last2 e2 _ ⟨A, k, cap, xs, rfl, hk, hx, hg⟩, ?_⟩
    clear hk hx hg
    rintro v' h' ⟨rfl, A, k, cap, xs, rfl, hk, hx, hg⟩
    have hend : endE data off2 e2 = e2 := by rw [endE, if_neg he2]
    rw [hend]
    refine ⟨[6, 12, 13, 60, 61, 62, 63, 64, 65, 66, 67, 68, 69, 70, 71, 72, 73, 74, 75, 76, 77, 78, 79, 80, 81, 82, 83, 84, 85, 86, 87, 88, 89, 90, 91, 92, 93, 94, 95, 96, 97, 98, 99, 100], [12],
      Nat × Option Addr × Nat × Nat × List Value,
      fun ⟨i, A, k, _, xs⟩ => i ≤ m.length ∧ k = data.length ∧ xs = BV data ∧ grow k A,
      fun ⟨i, _, _, _, _⟩ => [.int .i64 i],
      fun ⟨_, A, k, cap, xs⟩ => [.blk g 70 [.slice A k cap, .int .i64 off2, .int .i64 last2, .int .i64 e2], .row A k cap 5 1 xs (0, 0)],
      fun ⟨i, _, _, _, _⟩ => m.length - i, (0, A, k, cap, xs), ⟨by omega, hk, hx, hg⟩, ⟨rfl, trivial⟩, Ent.refl _, ?_⟩
    clear hk hx hg
    rintro ⟨i, A, k, cap, xs⟩ ⟨hi, hk, hx, hg⟩ js
    refine ⟨fun hb => ?_, fun hb => ?_⟩
    · replace hb := of_decide_eq_true hb
      have h1 : i < m.length := by omega
      obtain ⟨c, rfl, hRa⟩ := ht.at_ (List.getElem?_eq_getElem h1)
      have hok := homs _ (List.getElem_mem h1)
      generalize m[i] = x at hRa hok
      refine ⟨[], (.q 0 (.q 1 (.q 2 (.q 3 (.q 4 (.q 5 (.q 6 (.q 7 (.q 8 (.q 9 (.q 10 (.two 11 (.one 12 (.one 13 .nil)) 12 (.one 11 (.one 13 .nil)))))))))))))), by kernel_rfl, ?_⟩
      refine ⟨by omega, by omega, c, rfl, ?_⟩
      refine ⟨_, ro (fld (hRa 0 _ rfl)), ?_⟩
      refine ⟨by omega, by omega, c, rfl, ?_⟩
      refine ⟨_, ro (fld (hRa 5 _ rfl)), ?_⟩
      refine ⟨?_, ?_⟩
      · refine ⟨[0, 0], _, get_ok _ g data off2 last2 e2 _ x.k x.m hok.m2 ho3 (by omega) ⟨A, k, cap, xs, rfl, hk, hx, hg⟩, ?_⟩
        clear hk hx hg
        rintro v' h' ⟨rfl, hn⟩
        rw [getN_stay he2] at hn
        rw [getI_no _ he2, zeroI]
        obtain ⟨A, k, cap, xs, rfl, hk, hx, hg⟩ := hn
        intro g3
        refine ⟨rfl, rfl, 2, rfl, rfl, Nat.le_of_ble_eq_true rfl, ?_⟩
        refine ⟨_, ld 2 rfl rfl, ?_⟩
        repeat (focus (refine ⟨fun h => ?_, fun h => ?_⟩; first | (focus (exfalso; first | (simp at h; done) | exact absurd (of_decide_eq_true h) (by assumption) | exact absurd (by assumption) (of_decide_eq_false h))) | (rotate_left; focus (exfalso; first | (simp at h; done) | exact absurd (of_decide_eq_true h) (by assumption) | exact absurd (by assumption) (of_decide_eq_false h))) | (focus (exfalso; simp at h; omega)) | (rotate_left; focus (exfalso; simp at h; omega)); clear h))
        refine ⟨_, ld 2 rfl rfl, ?_⟩
        repeat (focus (refine ⟨fun h => ?_, fun h => ?_⟩; first | (focus (exfalso; first | (simp at h; done) | exact absurd (of_decide_eq_true h) (by assumption) | exact absurd (by assumption) (of_decide_eq_false h))) | (rotate_left; focus (exfalso; first | (simp at h; done) | exact absurd (of_decide_eq_true h) (by assumption) | exact absurd (by assumption) (of_decide_eq_false h))) | (focus (exfalso; simp at h; omega)) | (rotate_left; focus (exfalso; simp at h; omega)); clear h))
        refine ⟨_, ld 2 rfl rfl, ?_⟩
        repeat (focus (refine ⟨fun h => ?_, fun h => ?_⟩; first | (focus (exfalso; first | (simp at h; done) | exact absurd (of_decide_eq_true h) (by assumption) | exact absurd (by assumption) (of_decide_eq_false h))) | (rotate_left; focus (exfalso; first | (simp at h; done) | exact absurd (of_decide_eq_true h) (by assumption) | exact absurd (by assumption) (of_decide_eq_false h))) | (focus (exfalso; simp at h; omega)) | (rotate_left; focus (exfalso; simp at h; omega)); clear h))
        refine ⟨_, ld 2 rfl rfl, ?_⟩
        repeat (focus (refine ⟨fun h => ?_, fun h => ?_⟩; first | (focus (exfalso; first | (simp at h; done) | exact absurd (of_decide_eq_true h) (by assumption) | exact absurd (by assumption) (of_decide_eq_false h))) | (rotate_left; focus (exfalso; first | (simp at h; done) | exact absurd (of_decide_eq_true h) (by assumption) | exact absurd (by assumption) (of_decide_eq_false h))) | (focus (exfalso; simp at h; omega)) | (rotate_left; focus (exfalso; simp at h; omega)); clear h))
        refine ⟨[0, 0], _, RLeft_ok _ g data off2 last2 e2 _ ho3 (by omega) ⟨A, k, cap, xs, rfl, hk, hx, hg⟩, ?_⟩
        clear hk hx hg
        rintro v' h' ⟨rfl, A, k, cap, xs, rfl, hk, hx, hg⟩
        repeat (focus (refine ⟨fun h => ?_, fun h => ?_⟩; first | (focus (exfalso; first | (simp at h; done) | exact absurd (of_decide_eq_true h) (by assumption) | exact absurd (by assumption) (of_decide_eq_false h))) | (rotate_left; focus (exfalso; first | (simp at h; done) | exact absurd (of_decide_eq_true h) (by assumption) | exact absurd (by assumption) (of_decide_eq_false h))) | (focus (exfalso; simp at h; omega)) | (rotate_left; focus (exfalso; simp at h; omega)); clear h))
        (intro z hz; obtain rfl := wr_i64 hz (by omega) (by omega); clear hz)
        exact ⟨rfl, (i + 1, A, k, cap, xs), ⟨by omega, hk, hx, hg⟩, by show m.length - (i + 1) < m.length - i; omega, ⟨rfl, trivial⟩, Ent.dropr [_] _, rfl⟩
      · intro g3
        refine ⟨[0, 0], _, get_ok _ g data off2 last2 e2 _ x.k x.m hok.m2 ho3 (by omega) ⟨A, k, cap, xs, rfl, hk, hx, hg⟩, ?_⟩
        clear hk hx hg
        rintro v' h' ⟨rfl, hn⟩
        rw [getN_stay he2] at hn
        rw [getI_no _ he2, zeroI]
        obtain ⟨A, k, cap, xs, rfl, hk, hx, hg⟩ := hn
        refine ⟨rfl, rfl, 0, rfl, rfl, Nat.le_of_ble_eq_true rfl, ?_⟩
        refine ⟨_, ld 0 rfl rfl, ?_⟩
        repeat (focus (refine ⟨fun h => ?_, fun h => ?_⟩; first | (focus (exfalso; first | (simp at h; done) | exact absurd (of_decide_eq_true h) (by assumption) | exact absurd (by assumption) (of_decide_eq_false h))) | (rotate_left; focus (exfalso; first | (simp at h; done) | exact absurd (of_decide_eq_true h) (by assumption) | exact absurd (by assumption) (of_decide_eq_false h))) | (focus (exfalso; simp at h; omega)) | (rotate_left; focus (exfalso; simp at h; omega)); clear h))
        refine ⟨_, ld 0 rfl rfl, ?_⟩
        repeat (focus (refine ⟨fun h => ?_, fun h => ?_⟩; first | (focus (exfalso; first | (simp at h; done) | exact absurd (of_decide_eq_true h) (by assumption) | exact absurd (by assumption) (of_decide_eq_false h))) | (rotate_left; focus (exfalso; first | (simp at h; done) | exact absurd (of_decide_eq_true h) (by assumption) | exact absurd (by assumption) (of_decide_eq_false h))) | (focus (exfalso; simp at h; omega)) | (rotate_left; focus (exfalso; simp at h; omega)); clear h))
        refine ⟨_, ld 0 rfl rfl, ?_⟩
        repeat (focus (refine ⟨fun h => ?_, fun h => ?_⟩; first | (focus (exfalso; first | (simp at h; done) | exact absurd (of_decide_eq_true h) (by assumption) | exact absurd (by assumption) (of_decide_eq_false h))) | (rotate_left; focus (exfalso; first | (simp at h; done) | exact absurd (of_decide_eq_true h) (by assumption) | exact absurd (by assumption) (of_decide_eq_false h))) | (focus (exfalso; simp at h; omega)) | (rotate_left; focus (exfalso; simp at h; omega)); clear h))
        refine ⟨_, ld 0 rfl rfl, ?_⟩
        repeat (focus (refine ⟨fun h => ?_, fun h => ?_⟩; first | (focus (exfalso; first | (simp at h; done) | exact absurd (of_decide_eq_true h) (by assumption) | exact absurd (by assumption) (of_decide_eq_false h))) | (rotate_left; focus (exfalso; first | (simp at h; done) | exact absurd (of_decide_eq_true h) (by assumption) | exact absurd (by assumption) (of_decide_eq_false h))) | (focus (exfalso; simp at h; omega)) | (rotate_left; focus (exfalso; simp at h; omega)); clear h))
        refine ⟨[1, 1], _, RLeft_ok _ g data off2 last2 e2 _ ho3 (by omega) ⟨A, k, cap, xs, rfl, hk, hx, hg⟩, ?_⟩
        clear hk hx hg
        rintro v' h' ⟨rfl, A, k, cap, xs, rfl, hk, hx, hg⟩
        repeat (focus (refine ⟨fun h => ?_, fun h => ?_⟩; first | (focus (exfalso; first | (simp at h; done) | exact absurd (of_decide_eq_true h) (by assumption) | exact absurd (by assumption) (of_decide_eq_false h))) | (rotate_left; focus (exfalso; first | (simp at h; done) | exact absurd (of_decide_eq_true h) (by assumption) | exact absurd (by assumption) (of_decide_eq_false h))) | (focus (exfalso; simp at h; omega)) | (rotate_left; focus (exfalso; simp at h; omega)); clear h))
        (intro z hz; obtain rfl := wr_i64 hz (by omega) (by omega); clear hz)
        exact ⟨rfl, (i + 1, A, k, cap, xs), ⟨by omega, hk, hx, hg⟩, by show m.length - (i + 1) < m.length - i; omega, ⟨rfl, trivial⟩, Ent.dropr [_] _, rfl⟩
    · replace hb := of_decide_eq_false hb
      refine ⟨[0, 0], _, REnd_ok _ g data off2 last2 e2 _ ⟨A, k, cap, xs, rfl, hk, hx, hg⟩, ?_⟩
      rintro v' h' ⟨rfl, -⟩
      rw [hend]
      repeat (focus (refine ⟨fun h => ?_, fun h => ?_⟩; first | (focus (exfalso; first | (simp at h; done) | exact absurd (of_decide_eq_true h) (by assumption) | exact absurd (by assumption) (of_decide_eq_false h))) | (rotate_left; focus (exfalso; first | (simp at h; done) | exact absurd (of_decide_eq_true h) (by assumption) | exact absurd (by assumption) (of_decide_eq_false h))) | (focus (exfalso; simp at h; omega)) | (rotate_left; focus (exfalso; simp at h; omega)); clear h))
      (intro z hz; obtain rfl := wr_i64 hz (by omega) (by omega); clear hz)
      repeat (focus (refine ⟨fun h => ?_, fun h => ?_⟩; first | (focus (exfalso; first | (simp at h; done) | exact absurd (of_decide_eq_true h) (by assumption) | exact absurd (by assumption) (of_decide_eq_false h))) | (rotate_left; focus (exfalso; first | (simp at h; done) | exact absurd (of_decide_eq_true h) (by assumption) | exact absurd (by assumption) (of_decide_eq_false h))) | (focus (exfalso; simp at h; omega)) | (rotate_left; focus (exfalso; simp at h; omega)); clear h))
      refine ⟨_, Ent.nil _, ?_⟩
      show Value.bool (decide _) = _
      rw [decide_eq_true (by omega)]

theorem WireSticks_law (R : Rd) (v0 v1 v2 : Value) (s0 : SeenV R (.sl 1 (.int .u8)) v0) (s1 : SeenV R (.sl 6 ItemShp) v1) (s2 : SeenV R (.sl 6 ItemShp) v2) :
    Fn Try.prog 10 [v0, v1, v2] [] R (fun v _ => v = .bool true) := by
  obtain ⟨data, _, hd⟩ := s0.bytes
  obtain ⟨l, hok, _, hs⟩ := s1.items
  obtain ⟨m, hom, _, ht⟩ := s2.items
  exact WireSticks_ok R v0 v1 v2 data l m hok hom hd hs ht

end Go.Proofs.Ytknilabilihlnaa
