/-
  Contracts of the methods of wire.Reader.
-/
import Derived.Test.YtknilabilihlnaaWre
namespace Go.Proofs.Ytknilabilihlnaa
open Go Go.RowKit

/-! What each kind of read gives: the error, the value, what is left. -/
def uintD (l : List UInt8) : Int × Nat × List UInt8 := match dec l with | .none => (3, 0, []) | some (n, r) => (0, n, r)
def boolD : List UInt8 → Int × Bool × List UInt8
  | [] => (3, false, [])
  | b :: r => if 1 < b.toNat then (3, false, []) else (0, decide (b.toNat = 1), r)
def sumD (l : List UInt8) : Int × List UInt8 × List UInt8 := if l.length < 32 then (3, [], []) else (0, l.take 32, l.drop 32)

/-- The state of a reader after a read. -/
def nxt (data : List UInt8) (off last : Nat) (e : Int) (err : Int) (rest : List UInt8) : Nat × Nat × Int :=
  if e = 0 then (if err = 0 then (data.length - rest.length, off, 0) else (off, off, err)) else (off, last, e)

def IsRn (g : Nat) (data : List UInt8) (s : Nat × Nat × Int) (h : Hp) : Prop := IsR g data s.1 s.2.1 s.2.2 h

theorem NewReader_ok (R : Rd) (v : Value) (data : List UInt8) (hd : data.length ≤ 140737488355328) (hr : BsR R v data) : Fn Try.prog 30 [v] [] R (fun v h => ∃ g, v = .pointer (some ⟨g, 0, .none⟩) ∧ IsR g data 0 0 0 h) := by
  obtain ⟨A, cap, rfl⟩ := hr.form
  have hML := maxLen_eq
  refine fn_of_vc mixed tabOk Try.func30 rfl (by kernel_rfl) (Nat.le_of_ble_eq_true rfl) ?_
  refine ⟨rfl, fun g1 => ?_⟩
  refine ⟨BV data, by rw [BV_length]; exact (Nat.mul_one _).symm, (hr.rh _).src, BV_one _, by show (_ + _) * 1 ≤ _; omega, by omega, .inr ⟨0, rfl, rfl, rfl, rfl, rfl, rfl, fun A' cap' hg' => ?_⟩⟩
  intro g
  refine ⟨_, Ent.perm (List.Perm.swap _ _ _), g, rfl, A', _, cap', _, rfl, ?_, rfl, hg'⟩
  omega

theorem nxt_yes {g : Nat} {data : List UInt8} {off last off' : Nat} {err : Int} {rest : List UInt8} {h : Hp} (h1 : err = 0) (h2 : IsR g data off' off 0 h) (h3 : off' + rest.length = data.length) : IsRn g data (nxt data off last 0 err rest) h := by
  unfold IsRn nxt
  rw [if_pos rfl, if_pos h1]
  have : off' = data.length - rest.length := by omega
  rw [← this]; exact h2
theorem nxt_no {g : Nat} {data : List UInt8} {off last : Nat} {err : Int} {rest : List UInt8} {h : Hp} (h1 : err ≠ 0) (h2 : IsR g data off off err h) : IsRn g data (nxt data off last 0 err rest) h := by
  unfold IsRn nxt
  rw [if_pos rfl, if_neg h1]; exact h2
theorem nxt_same {g : Nat} {data : List UInt8} {off last : Nat} {e err : Int} {rest : List UInt8} {h : Hp} (h1 : e ≠ 0) (h2 : IsR g data off last e h) : IsRn g data (nxt data off last e err rest) h := by
  unfold IsRn nxt
  rw [if_neg h1]; exact h2

theorem RUint_ok (R : Rd) (g : Nat) (data : List UInt8) (off last : Nat) (e : Int) (h : Hp) (ho : off ≤ data.length) (hd : data.length ≤ 9000000000000000000) (hr : IsR g data off last e h) :
    Fn Try.prog 42 [.pointer (some ⟨g, 0, .none⟩)] h R (fun v h' => v = .int .u64 (if e = 0 then (uintD (data.drop off)).2.1 else 0 : Nat) ∧
      IsRn g data (nxt data off last e (uintD (data.drop off)).1 (uintD (data.drop off)).2.2) h') := by
  obtain ⟨A, k, cap, xs, rfl, hk, hx, hg⟩ := hr
  refine fn_of_vc mixed tabOk Try.func42 rfl (by kernel_rfl) (Nat.le_of_ble_eq_true rfl) ?_
  refine ⟨[0, 0], _, rvU_ok _ g data off last e _ ⟨A, k, cap, xs, rfl, hk, hx, hg⟩ _ (fun x err off' hx => hx = [] ∧ x = (uintD (data.drop off)).2.1 ∧ err = (uintD (data.drop off)).1 ∧ (err = 0 → off' + (uintD (data.drop off)).2.2.length = data.length)) (fun he R' h1 hRR hr1 => ?_), ?_⟩
  · refine (number_ok R' g data off last 0 h1 ho hd hr1).mono (fun _ _ h => h) ?_
    rintro v h' ⟨off', hle, hr', ⟨n, r, hdec, rfl, hoff⟩ | ⟨hdec, rfl⟩⟩
    · have := dec_len hdec
      rw [List.length_drop] at this
      refine ⟨n, 0, off', h', [], rfl, hr', by simp, rfl, ?_, ?_, ?_⟩
      · rw [uintD, hdec]
      · rw [uintD, hdec]
      · rw [uintD, hdec]; intro _; simp only; omega
    · refine ⟨0, 3, off', h', [], rfl, hr', by simp, rfl, ?_, ?_, ?_⟩
      · rw [uintD, hdec]; rfl
      · rw [uintD, hdec]
      · intro h; simp at h
  · rintro v h' (⟨he, rfl, hr'⟩ | ⟨rfl, x, err, off', h2, hx, ⟨rfl, rfl, rfl, hoff⟩, hc⟩)
    · refine ⟨_, Ent.refl _, ?_, nxt_same he hr'⟩
      rw [if_neg he]; rfl
    · rcases hc with ⟨herr, rfl, hr', rfl⟩ | ⟨herr, rfl, hr'⟩
      · rw [List.append_nil]
        exact ⟨_, Ent.refl _, rfl, nxt_yes herr hr' (hoff herr)⟩
      · refine ⟨_, Ent.refl _, ?_, nxt_no herr hr'⟩
        rw [if_pos rfl]
        unfold uintD at herr ⊢
        cases hdec : dec (data.drop off) with
        | none => rfl
        | some p => rw [hdec] at herr; simp at herr

set_option maxRecDepth 100000 in
set_option maxHeartbeats 4000000 in
theorem bool1_ok (R : Rd) (g b1 : Nat) (data : List UInt8) (off last : Nat) (h : Hp) (ho : off ≤ data.length) (hd : data.length ≤ 9000000000000000000) (hr : IsR g data off last 0 h) (hbox : R ⟨b1, 0, .none⟩ (.pointer (some ⟨g, 0, .none⟩))) :
    Fn Try.prog 48 [.pointer (some ⟨b1, 0, .none⟩)] h R (fun v h' => ∃ off', IsR g data off' last 0 h' ∧ v = .tuple ⟨[.bool (boolD (data.drop off)).2.1, .int .i64 (boolD (data.drop off)).1]⟩ ∧ ((boolD (data.drop off)).1 = 0 → off' + (boolD (data.drop off)).2.2.length = data.length)) := by
  obtain ⟨A, k, cap, xs, rfl, hk, hx, hg⟩ := hr
  refine fn_of_vc mixed tabOk Try.func48 rfl (by kernel_rfl) (Nat.le_of_ble_eq_true rfl) ?_
  refine ⟨[0, 0], lexT 0 23, by kernel_rfl, ?_⟩
  by_cases hend : off = data.length
  · have hnil : data.drop off = [] := List.drop_eq_nil_of_le (by omega)
    repeat (first | (focus (refine ⟨fun h => ?_, fun h => ?_⟩; first | (focus (exfalso; first | (simp at h; done) | exact absurd (of_decide_eq_true h) (by assumption) | exact absurd (by assumption) (of_decide_eq_false h))) | (rotate_left; focus (exfalso; first | (simp at h; done) | exact absurd (of_decide_eq_true h) (by assumption) | exact absurd (by assumption) (of_decide_eq_false h))) | (focus (exfalso; simp at h; omega)) | (rotate_left; focus (exfalso; simp at h; omega)); clear h)) | refine ⟨_, .inl hbox, ?_⟩ | refine ⟨_, ld 0 rfl rfl, ?_⟩)
    refine ⟨_, Ent.refl _, off, ⟨A, k, cap, xs, rfl, hk, hx, hg⟩, ?_, ?_⟩
    · rw [hnil]; rfl
    · rw [hnil]; intro h; simp [boolD] at h
  · have hlt : off < data.length := by omega
    have hxb : xs[off]? = some (.int .u8 (data[off].toNat : Int)) := by rw [hx]; exact BV_get (List.getElem?_eq_getElem hlt)
    have hcons := List.drop_eq_getElem_cons hlt
    generalize data[off] = b at hcons hxb
    have hb256 := UInt8.toNat_lt b
    obtain ⟨g2, rfl⟩ := growA hg (by omega)
    by_cases hb1 : 1 < b.toNat
    · repeat (first | (focus (refine ⟨fun h => ?_, fun h => ?_⟩; first | (focus (exfalso; first | (simp at h; done) | exact absurd (of_decide_eq_true h) (by assumption) | exact absurd (by assumption) (of_decide_eq_false h))) | (rotate_left; focus (exfalso; first | (simp at h; done) | exact absurd (of_decide_eq_true h) (by assumption) | exact absurd (by assumption) (of_decide_eq_false h))) | (focus (exfalso; simp at h; omega)) | (rotate_left; focus (exfalso; simp at h; omega)); clear h)) | refine ⟨_, .inl hbox, ?_⟩ | refine ⟨_, ld 0 rfl rfl, ?_⟩ | refine ⟨by omega, by omega, _, rfl, ?_⟩ | refine ⟨_, ldr1 1 rfl hxb, ?_⟩)
      refine ⟨_, Ent.refl _, off, ⟨_, k, cap, xs, rfl, hk, hx, hg⟩, ?_, ?_⟩
      · rw [hcons, boolD, if_pos hb1]; rfl
      · rw [hcons, boolD, if_pos hb1]; intro h; simp at h
    · repeat (first | (focus (refine ⟨fun h => ?_, fun h => ?_⟩; first | (focus (exfalso; first | (simp at h; done) | exact absurd (of_decide_eq_true h) (by assumption) | exact absurd (by assumption) (of_decide_eq_false h))) | (rotate_left; focus (exfalso; first | (simp at h; done) | exact absurd (of_decide_eq_true h) (by assumption) | exact absurd (by assumption) (of_decide_eq_false h))) | (focus (exfalso; simp at h; omega)) | (rotate_left; focus (exfalso; simp at h; omega)); clear h)) | refine ⟨_, .inl hbox, ?_⟩ | refine ⟨_, ld 0 rfl rfl, ?_⟩ | refine ⟨by omega, by omega, _, rfl, ?_⟩ | refine ⟨_, ldr1 1 rfl hxb, ?_⟩)
      refine ⟨[0, 0], lexT 0 11, by kernel_rfl, ?_⟩
      repeat (first | refine ⟨_, .inl hbox, ?_⟩ | refine ⟨_, ld 0 rfl rfl, ?_⟩ | refine ⟨by omega, by omega, _, rfl, ?_⟩ | refine ⟨_, ldr1 1 rfl hxb, ?_⟩)
      (intro z hz; obtain rfl := wr_i64 hz (by omega) (by omega); clear hz)
      refine ⟨rfl, rfl, 0, rfl, rfl, Nat.le_of_ble_eq_true rfl, ?_⟩
      refine ⟨_, Ent.refl _, off + 1, ⟨_, k, cap, xs, rfl, hk, hx, hg⟩, ?_, ?_⟩
      · rw [hcons, boolD, if_neg hb1]
        show Value.tuple ⟨[.bool (decide ((b.toNat : Int) = 1)), _]⟩ = _
        congr 4
        simp only [decide_eq_decide]
        omega
      · rw [hcons, boolD, if_neg hb1]; intro _; simp only [List.length_drop]; omega

theorem RBool_ok (R : Rd) (g : Nat) (data : List UInt8) (off last : Nat) (e : Int) (h : Hp) (ho : off ≤ data.length) (hd : data.length ≤ 9000000000000000000) (hr : IsR g data off last e h) :
    Fn Try.prog 33 [.pointer (some ⟨g, 0, .none⟩)] h R (fun v h' => v = .bool (if e = 0 then (boolD (data.drop off)).2.1 else false) ∧
      IsRn g data (nxt data off last e (boolD (data.drop off)).1 (boolD (data.drop off)).2.2) h') := by
  obtain ⟨A, k, cap, xs, rfl, hk, hx, hg⟩ := hr
  refine fn_of_vc mixed tabOk Try.func33 rfl (by kernel_rfl) (Nat.le_of_ble_eq_true rfl) ?_
  intro b1
  refine ⟨_, ld 2 rfl rfl, ?_⟩
  refine ⟨[0, 0], _, rvB_ok _ g data off last e _ ⟨A, k, cap, xs, rfl, hk, hx, hg⟩ _ _ (fun x err off' hx => hx = [] ∧ x = (boolD (data.drop off)).2.1 ∧ err = (boolD (data.drop off)).1 ∧ (err = 0 → off' + (boolD (data.drop off)).2.2.length = data.length)) (fun he R' h1 hRR hr1 => ?_), ?_⟩
  · refine (bool1_ok R' g b1 data off last h1 ho hd hr1 (hRR _ _ (ld 0 rfl rfl))).mono (fun _ _ h => h) ?_
    rintro v h' ⟨off', hr', rfl, hoff⟩
    exact ⟨_, _, off', h', [], rfl, hr', by simp, rfl, rfl, rfl, hoff⟩
  · rintro v h' (⟨he, rfl, hr'⟩ | ⟨rfl, x, err, off', h2, hx, ⟨rfl, rfl, rfl, hoff⟩, hc⟩)
    · refine ⟨_, Ent.dropr [_] _, ?_, nxt_same he hr'⟩
      rw [if_neg he]; rfl
    · rcases hc with ⟨herr, rfl, hr', rfl⟩ | ⟨herr, rfl, hr'⟩
      · rw [List.append_nil]
        exact ⟨_, Ent.dropr [_] _, rfl, nxt_yes herr hr' (hoff herr)⟩
      · refine ⟨_, Ent.dropr [_] _, ?_, nxt_no herr hr'⟩
        rw [if_pos rfl]
        cases hl : data.drop off with
        | nil => rfl
        | cons b r =>
          rw [hl] at herr
          by_cases hb : 1 < b.toNat
          · rw [boolD, if_pos hb]; rfl
          · rw [boolD, if_neg hb] at herr; simp at herr

/-- The error that End returns. -/
def endE (data : List UInt8) (off : Nat) (e : Int) : Int := if e = 0 then (if off < data.length then 3 else 0) else e

theorem REnd_ok (R : Rd) (g : Nat) (data : List UInt8) (off last : Nat) (e : Int) (h : Hp) (hr : IsR g data off last e h) :
    Fn Try.prog 36 [.pointer (some ⟨g, 0, .none⟩)] h R (fun v h' => v = .tuple ⟨[.int .i64 off, .int .i64 (endE data off e)]⟩ ∧ IsR g data off last e h') := by
  obtain ⟨A, k, cap, xs, rfl, hk, hx, hg⟩ := hr
  refine fn_of_vc mixed tabOk Try.func36 rfl (by kernel_rfl) (Nat.le_of_ble_eq_true rfl) ?_
  refine ⟨_, ld 0 rfl rfl, ?_⟩
  refine ⟨fun he => ?_, fun he => ?_⟩
  · have he : ¬ e = 0 := by simpa using he
    refine ⟨[0], lexT 0 10, by kernel_rfl, ?_⟩
    refine ⟨_, ld 0 rfl rfl, ?_⟩
    refine ⟨_, ld 0 rfl rfl, ?_⟩
    refine ⟨_, Ent.refl _, ?_, A, k, cap, xs, rfl, hk, hx, hg⟩
    rw [endE, if_neg he]; rfl
  · have he : e = 0 := by simpa using he
    subst he
    refine ⟨[0], lexT 0 10, by kernel_rfl, ?_⟩
    refine ⟨_, ld 0 rfl rfl, ?_⟩
    refine ⟨_, ld 0 rfl rfl, ?_⟩
    refine ⟨fun hb => ?_, fun hb => ?_⟩
    · replace hb := of_decide_eq_true hb
      refine ⟨_, ld 0 rfl rfl, ?_⟩
      refine ⟨_, Ent.refl _, ?_, A, k, cap, xs, rfl, hk, hx, hg⟩
      rw [endE, if_pos rfl, if_pos (by omega)]; rfl
    · replace hb := of_decide_eq_false hb
      refine ⟨_, ld 0 rfl rfl, ?_⟩
      refine ⟨_, Ent.refl _, ?_, A, k, cap, xs, rfl, hk, hx, hg⟩
      rw [endE, if_pos rfl, if_neg (by omega)]; rfl

end Go.Proofs.Ytknilabilihlnaa
