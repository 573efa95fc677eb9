/-
  Contracts of the methods of wire.Reader that take a limit, and of Int, Left, Fail.
-/
import Derived.Test.YtknilabilihlnaaWrf
namespace Go.Proofs.Ytknilabilihlnaa
open Go Go.RowKit

theorem take_part {bs : List UInt8} {o n : Nat} : ((BV bs).drop o).take n = BV ((bs.drop o).take n) := by
  simp [BV, List.map_drop, List.map_take]

theorem blkD_err {most : Int} {l : List UInt8} (h : (blkD most l).1 ≠ 0) : (blkD most l).2.1 = [] := by
  unfold blkD at h ⊢
  split
  · split
    · rfl
    · rename_i h1 h2; rw [if_pos h1, if_neg h2] at h; simp at h
  · rfl

set_option maxHeartbeats 4000000 in
theorem bytes1_ok (R : Rd) (g b1 b2 : Nat) (data : List UInt8) (off last : Nat) (h : Hp) (most : Int) (hm1 : most ≤ 9223372036854775807) (ho : off ≤ data.length) (hd : data.length ≤ 1000000000) (hr : IsR g data off last 0 h)
    (hb1 : R ⟨b1, 0, .none⟩ (.pointer (some ⟨g, 0, .none⟩))) (hb2 : R ⟨b2, 0, .none⟩ (.int .i64 most)) :
    Fn Try.prog 45 [.pointer (some ⟨b1, 0, .none⟩), .pointer (some ⟨b2, 0, .none⟩)] h R (fun v h' => ∃ A k cap off' h2 hx, v = .tuple ⟨[.slice A k cap, .int .i64 (blkD most (data.drop off)).1]⟩ ∧ IsR g data off' last 0 h2 ∧ h' = h2 ++ hx ∧
      OwnB (.slice A k cap) (blkD most (data.drop off)).2.1 hx ∧ ((blkD most (data.drop off)).1 = 0 → off' + (blkD most (data.drop off)).2.2.length = data.length)) := by
  obtain ⟨A, k, cap, xs, rfl, hk, hx, hg⟩ := hr
  have hML := maxLen_eq
  refine fn_of_vc mixed tabOk Try.func45 rfl (by kernel_rfl) (Nat.le_of_ble_eq_true rfl) ?_
  refine ⟨_, ro hb1, ?_⟩
  refine ⟨_, ro hb2, ?_⟩
  refine ⟨[0, 0], _, block_ok _ g data off last 0 _ most hm1 ho (by omega) ⟨A, k, cap, xs, rfl, hk, hx, hg⟩, ?_⟩
  clear hk hx hg
  rintro v h' ⟨A, k, cap, xs, off', s, rfl, hk, hx, hg, ho', rfl, ⟨he, rfl⟩ | ⟨he, hoff, o, n, rfl, hon, hkc, hbs⟩⟩
  · refine ⟨[], rfl, (fun j u h => by simp at h), rfl, by show (0 + 0) * 1 ≤ _; omega, by omega, .inl ⟨rfl, rfl, rfl, fun A' cap' hg' => ?_⟩⟩
    refine ⟨_, Ent.refl _, A', _, cap', off', [_, _], [_], rfl, ⟨A, k, cap, xs, rfl, hk, hx, hg⟩, rfl, ⟨A', _, cap', _, rfl, rfl, ?_, ?_, hg'⟩, fun h => absurd h he⟩
    · rw [blkD_err he]; rfl
    · rw [blkD_err he]; rfl
  · refine ⟨BV ((data.drop o).take n), ?_, ?_, BV_one _, by show (0 + n) * 1 ≤ _; omega, by omega, .inl ⟨rfl, rfl, rfl, fun A' cap' hg' => ?_⟩⟩
    · show _ = n * 1
      rw [BV_length, List.length_take, List.length_drop]; omega
    · rw [← take_part, ← hx]
      exact sub_src 1 rfl (by rw [hx, BV_length, hk]) hon hkc hg
    · refine ⟨_, Ent.refl _, A', _, cap', off', [_, _], [_], rfl, ⟨A, k, cap, xs, rfl, hk, hx, hg⟩, rfl, ⟨A', _, cap', _, rfl, rfl, ?_, ?_, hg'⟩, fun _ => hoff⟩
      · rw [hbs, List.length_take, List.length_drop]; omega
      · rw [hbs]; rfl

set_option maxHeartbeats 4000000 in
theorem text1_ok (R : Rd) (g b1 b2 : Nat) (data : List UInt8) (off last : Nat) (h : Hp) (most : Int) (hm1 : most ≤ 9223372036854775807) (ho : off ≤ data.length) (hd : data.length ≤ 1000000000) (hr : IsR g data off last 0 h)
    (hb1 : R ⟨b1, 0, .none⟩ (.pointer (some ⟨g, 0, .none⟩))) (hb2 : R ⟨b2, 0, .none⟩ (.int .i64 most)) :
    Fn Try.prog 64 [.pointer (some ⟨b1, 0, .none⟩), .pointer (some ⟨b2, 0, .none⟩)] h R (fun v h' => ∃ off', v = .tuple ⟨[.string ⟨⟨(blkD most (data.drop off)).2.1⟩⟩, .int .i64 (blkD most (data.drop off)).1]⟩ ∧ IsR g data off' last 0 h' ∧
      ((blkD most (data.drop off)).1 = 0 → off' + (blkD most (data.drop off)).2.2.length = data.length)) := by
  obtain ⟨A, k, cap, xs, rfl, hk, hx, hg⟩ := hr
  have hML := maxLen_eq
  refine fn_of_vc mixed tabOk Try.func64 rfl (by kernel_rfl) (Nat.le_of_ble_eq_true rfl) ?_
  refine ⟨_, ro hb1, ?_⟩
  refine ⟨_, ro hb2, ?_⟩
  refine ⟨[0, 0], _, block_ok _ g data off last 0 _ most hm1 ho (by omega) ⟨A, k, cap, xs, rfl, hk, hx, hg⟩, ?_⟩
  clear hk hx hg
  rintro v h' ⟨A, k, cap, xs, off', s, rfl, hk, hx, hg, ho', rfl, ⟨he, rfl⟩ | ⟨he, hoff, o, n, rfl, hon, hkc, hbs⟩⟩
  · refine ⟨[], rfl, (fun j u h => by simp at h), ?_⟩
    refine ⟨_, Ent.refl _, off', ?_, ⟨A, k, cap, xs, rfl, hk, hx, hg⟩, fun h => absurd h he⟩
    rw [blkD_err he]; rfl
  · refine ⟨(data.drop o).take n, ?_, ?_, ?_⟩
    · rw [List.length_take, List.length_drop]; omega
    · intro j b hjb
      exact sub_src (R := R) (h := rdH g A k cap xs off' last 0) 1 rfl (by rw [hx, BV_length, hk]) hon hkc hg j _ (by rw [hx, take_part]; exact BV_get hjb)
    · refine ⟨_, Ent.refl _, off', ?_, ⟨A, k, cap, xs, rfl, hk, hx, hg⟩, fun _ => hoff⟩
      rw [hbs]; rfl

theorem sum1_ok (R : Rd) (g b1 : Nat) (data : List UInt8) (off last : Nat) (h : Hp) (ho : off ≤ data.length) (hd : data.length ≤ 1000000000) (hr : IsR g data off last 0 h)
    (hb1 : R ⟨b1, 0, .none⟩ (.pointer (some ⟨g, 0, .none⟩))) :
    Fn Try.prog 65 [.pointer (some ⟨b1, 0, .none⟩)] h R (fun v h' => ∃ off', v = .tuple ⟨[.string ⟨⟨(sumD (data.drop off)).2.1⟩⟩, .int .i64 (sumD (data.drop off)).1]⟩ ∧ IsR g data off' last 0 h' ∧
      ((sumD (data.drop off)).1 = 0 → off' + (sumD (data.drop off)).2.2.length = data.length)) := by
  obtain ⟨A, k, cap, xs, rfl, hk, hx, hg⟩ := hr
  refine fn_of_vc mixed tabOk Try.func65 rfl (by kernel_rfl) (Nat.le_of_ble_eq_true rfl) ?_
  refine ⟨_, ro hb1, ?_⟩
  refine ⟨[0, 0], _, take_ok _ g data A k cap xs off last 0 hk 32 (by omega) ho (by omega), ?_⟩
  rintro v h' (⟨hlt, rfl, rfl⟩ | ⟨hle, hkc, rfl, rfl⟩)
  · have hs : sumD (data.drop off) = (3, [], []) := by rw [sumD, if_pos (by rw [List.length_drop]; omega)]
    refine ⟨[], rfl, (fun j u h => by simp at h), ?_⟩
    refine ⟨_, Ent.refl _, off, ?_, ⟨A, k, cap, xs, rfl, hk, hx, hg⟩, ?_⟩
    · rw [hs]; rfl
    · rw [hs]; intro h; simp at h
  · have hs : sumD (data.drop off) = (0, (data.drop off).take 32, (data.drop off).drop 32) := by rw [sumD, if_neg (by rw [List.length_drop]; omega)]
    refine ⟨(data.drop off).take 32, ?_, ?_, ?_⟩
    · rw [List.length_take, List.length_drop]; omega
    · intro j b hjb
      exact sub_src (R := R) (h := rdH g A k cap xs (off + 32) last 0) 1 rfl (by rw [hx, BV_length, hk]) (o := off) (n := 32) (by omega) hkc hg j _ (by rw [hx, take_part]; exact BV_get hjb)
    · refine ⟨_, Ent.refl _, off + 32, ?_, ⟨A, k, cap, xs, rfl, hk, hx, hg⟩, ?_⟩
      · rw [hs]; rfl
      · rw [hs]; intro _; simp only [List.length_drop]; omega

theorem count1_ok (R : Rd) (g b1 b2 : Nat) (data : List UInt8) (off last : Nat) (h : Hp) (most : Int) (hm1 : most ≤ 9223372036854775807) (ho : off ≤ data.length) (hd : data.length ≤ 1000000000) (hr : IsR g data off last 0 h)
    (hb1 : R ⟨b1, 0, .none⟩ (.pointer (some ⟨g, 0, .none⟩))) (hb2 : R ⟨b2, 0, .none⟩ (.int .i64 most)) :
    Fn Try.prog 67 [.pointer (some ⟨b1, 0, .none⟩), .pointer (some ⟨b2, 0, .none⟩)] h R (fun v h' => ∃ off', v = .tuple ⟨[.int .i64 (limD most (data.drop off)).2.1, .int .i64 (limD most (data.drop off)).1]⟩ ∧ IsR g data off' last 0 h' ∧
      ((limD most (data.drop off)).1 = 0 → off' + (limD most (data.drop off)).2.2.length = data.length)) := by
  obtain ⟨A, k, cap, xs, rfl, hk, hx, hg⟩ := hr
  refine fn_of_vc mixed tabOk Try.func67 rfl (by kernel_rfl) (Nat.le_of_ble_eq_true rfl) ?_
  refine ⟨_, ro hb1, ?_⟩
  refine ⟨_, ro hb2, ?_⟩
  refine ⟨[0, 0], _, limited_ok _ g data off last 0 _ most hm1 ho (by omega) ⟨A, k, cap, xs, rfl, hk, hx, hg⟩, ?_⟩
  clear hk hx hg
  rintro v h' ⟨off', ho', ⟨A, k, cap, xs, rfl, hk, hx, hg⟩, rfl, hoff⟩
  exact ⟨_, Ent.refl _, off', rfl, ⟨A, k, cap, xs, rfl, hk, hx, hg⟩, hoff⟩

theorem RBytes_ok (R : Rd) (g : Nat) (data : List UInt8) (off last : Nat) (e : Int) (h : Hp) (most : Int) (hm1 : most ≤ 9223372036854775807) (ho : off ≤ data.length) (hd : data.length ≤ 1000000000) (hr : IsR g data off last e h) :
    Fn Try.prog 31 [.pointer (some ⟨g, 0, .none⟩), .int .i64 most] h R (fun v h' => ∃ h2 hx, h' = h2 ++ hx ∧ OwnB v (if e = 0 then (blkD most (data.drop off)).2.1 else []) hx ∧
      IsRn g data (nxt data off last e (blkD most (data.drop off)).1 (blkD most (data.drop off)).2.2) h2) := by
  obtain ⟨A, k, cap, xs, rfl, hk, hx, hg⟩ := hr
  refine fn_of_vc mixed tabOk Try.func31 rfl (by kernel_rfl) (Nat.le_of_ble_eq_true rfl) ?_
  intro b1
  intro b2
  refine ⟨_, ld 2 rfl rfl, ?_⟩
  refine ⟨[0, 0], _, rvY_ok _ g data off last e _ ⟨A, k, cap, xs, rfl, hk, hx, hg⟩ _ _ (fun x err off' hx => OwnB (.slice x.1 x.2.1 x.2.2) (blkD most (data.drop off)).2.1 hx ∧ err = (blkD most (data.drop off)).1 ∧ (err = 0 → off' + (blkD most (data.drop off)).2.2.length = data.length)) (fun he R' h1 hRR hr1 => ?_), ?_⟩
  · refine (bytes1_ok R' g b1 b2 data off last h1 most hm1 ho hd hr1 (hRR _ _ (ld 0 rfl rfl)) (hRR _ _ (ld 1 rfl rfl))).mono (fun _ _ h => h) ?_
    rintro v h' ⟨A, k, cap, off', h2, hx, rfl, hr', rfl, hown, hoff⟩
    exact ⟨(A, k, cap), _, off', h2, hx, rfl, hr', rfl, hown, rfl, hoff⟩
  · rintro v h' (⟨he, rfl, hr'⟩ | ⟨rfl, x, err, off', h2, hx, ⟨hown, rfl, hoff⟩, hc⟩)
    · refine ⟨_, (Ent.dropr [_, _] _).trans (Ent.nilrow _ 5 1), h', _, rfl, ?_, nxt_same he hr'⟩
      rw [if_neg he]
      exact ⟨_, _, _, _, rfl, rfl, rfl, rfl, .inl rfl⟩
    · rcases hc with ⟨herr, rfl, hr', rfl⟩ | ⟨herr, rfl, hr'⟩
      · exact ⟨_, Ent.dropr [_, _] _, h2, hx, rfl, hown, nxt_yes herr hr' (hoff herr)⟩
      · refine ⟨_, (Ent.dropr [_, _] _).trans (Ent.nilrow _ 5 1), h', _, rfl, ?_, nxt_no herr hr'⟩
        rw [if_pos rfl, blkD_err herr]
        exact ⟨_, _, _, _, rfl, rfl, rfl, rfl, .inl rfl⟩

theorem RText_ok (R : Rd) (g : Nat) (data : List UInt8) (off last : Nat) (e : Int) (h : Hp) (most : Int) (hm1 : most ≤ 9223372036854775807) (ho : off ≤ data.length) (hd : data.length ≤ 1000000000) (hr : IsR g data off last e h) :
    Fn Try.prog 50 [.pointer (some ⟨g, 0, .none⟩), .int .i64 most] h R (fun v h' => v = .string ⟨⟨if e = 0 then (blkD most (data.drop off)).2.1 else []⟩⟩ ∧
      IsRn g data (nxt data off last e (blkD most (data.drop off)).1 (blkD most (data.drop off)).2.2) h') := by
  obtain ⟨A, k, cap, xs, rfl, hk, hx, hg⟩ := hr
  refine fn_of_vc mixed tabOk Try.func50 rfl (by kernel_rfl) (Nat.le_of_ble_eq_true rfl) ?_
  intro b1
  intro b2
  refine ⟨_, ld 2 rfl rfl, ?_⟩
  refine ⟨[0, 0], _, rvS_ok _ g data off last e _ ⟨A, k, cap, xs, rfl, hk, hx, hg⟩ _ _ (fun x err off' hx => hx = [] ∧ x = ⟨⟨(blkD most (data.drop off)).2.1⟩⟩ ∧ err = (blkD most (data.drop off)).1 ∧ (err = 0 → off' + (blkD most (data.drop off)).2.2.length = data.length)) (fun he R' h1 hRR hr1 => ?_), ?_⟩
  · refine (text1_ok R' g b1 b2 data off last h1 most hm1 ho hd hr1 (hRR _ _ (ld 0 rfl rfl)) (hRR _ _ (ld 1 rfl rfl))).mono (fun _ _ h => h) ?_
    rintro v h' ⟨off', rfl, hr', hoff⟩
    exact ⟨_, _, off', h', [], rfl, hr', by simp, rfl, rfl, rfl, hoff⟩
  · rintro v h' (⟨he, rfl, hr'⟩ | ⟨rfl, x, err, off', h2, hx, ⟨rfl, rfl, rfl, hoff⟩, hc⟩)
    · refine ⟨_, Ent.dropr [_, _] _, ?_, nxt_same he hr'⟩
      rw [if_neg he]; rfl
    · rcases hc with ⟨herr, rfl, hr', rfl⟩ | ⟨herr, rfl, hr'⟩
      · rw [List.append_nil]
        exact ⟨_, Ent.dropr [_, _] _, rfl, nxt_yes herr hr' (hoff herr)⟩
      · refine ⟨_, Ent.dropr [_, _] _, ?_, nxt_no herr hr'⟩
        rw [if_pos rfl, blkD_err herr]; rfl

theorem RSum_ok (R : Rd) (g : Nat) (data : List UInt8) (off last : Nat) (e : Int) (h : Hp) (ho : off ≤ data.length) (hd : data.length ≤ 1000000000) (hr : IsR g data off last e h) :
    Fn Try.prog 51 [.pointer (some ⟨g, 0, .none⟩)] h R (fun v h' => v = .string ⟨⟨if e = 0 then (sumD (data.drop off)).2.1 else []⟩⟩ ∧
      IsRn g data (nxt data off last e (sumD (data.drop off)).1 (sumD (data.drop off)).2.2) h') := by
  obtain ⟨A, k, cap, xs, rfl, hk, hx, hg⟩ := hr
  refine fn_of_vc mixed tabOk Try.func51 rfl (by kernel_rfl) (Nat.le_of_ble_eq_true rfl) ?_
  intro b1
  refine ⟨_, ld 2 rfl rfl, ?_⟩
  refine ⟨[0, 0], _, rvS_ok _ g data off last e _ ⟨A, k, cap, xs, rfl, hk, hx, hg⟩ _ _ (fun x err off' hx => hx = [] ∧ x = ⟨⟨(sumD (data.drop off)).2.1⟩⟩ ∧ err = (sumD (data.drop off)).1 ∧ (err = 0 → off' + (sumD (data.drop off)).2.2.length = data.length)) (fun he R' h1 hRR hr1 => ?_), ?_⟩
  · refine (sum1_ok R' g b1 data off last h1 ho hd hr1 (hRR _ _ (ld 0 rfl rfl))).mono (fun _ _ h => h) ?_
    rintro v h' ⟨off', rfl, hr', hoff⟩
    exact ⟨_, _, off', h', [], rfl, hr', by simp, rfl, rfl, rfl, hoff⟩
  · rintro v h' (⟨he, rfl, hr'⟩ | ⟨rfl, x, err, off', h2, hx, ⟨rfl, rfl, rfl, hoff⟩, hc⟩)
    · refine ⟨_, Ent.dropr [_] _, ?_, nxt_same he hr'⟩
      rw [if_neg he]; rfl
    · rcases hc with ⟨herr, rfl, hr', rfl⟩ | ⟨herr, rfl, hr'⟩
      · rw [List.append_nil]
        exact ⟨_, Ent.dropr [_] _, rfl, nxt_yes herr hr' (hoff herr)⟩
      · refine ⟨_, Ent.dropr [_] _, ?_, nxt_no herr hr'⟩
        rw [if_pos rfl]
        unfold sumD at herr ⊢
        by_cases hb : (data.drop off).length < 32
        · rw [if_pos hb]; rfl
        · rw [if_neg hb] at herr; simp at herr

theorem limD_err {most : Int} {l : List UInt8} (h : (limD most l).1 ≠ 0) : (limD most l).2.1 = 0 := by
  unfold limD at h ⊢
  split
  · rfl
  · split
    · rfl
    · rename_i hd hm; rw [hd] at h; simp [hm] at h

theorem RCount_ok (R : Rd) (g : Nat) (data : List UInt8) (off last : Nat) (e : Int) (h : Hp) (most : Int) (hm1 : most ≤ 9223372036854775807) (ho : off ≤ data.length) (hd : data.length ≤ 1000000000) (hr : IsR g data off last e h) :
    Fn Try.prog 52 [.pointer (some ⟨g, 0, .none⟩), .int .i64 most] h R (fun v h' => v = .int .i64 (if e = 0 then (limD most (data.drop off)).2.1 else 0 : Nat) ∧
      IsRn g data (nxt data off last e (limD most (data.drop off)).1 (limD most (data.drop off)).2.2) h') := by
  obtain ⟨A, k, cap, xs, rfl, hk, hx, hg⟩ := hr
  refine fn_of_vc mixed tabOk Try.func52 rfl (by kernel_rfl) (Nat.le_of_ble_eq_true rfl) ?_
  intro b1
  intro b2
  refine ⟨_, ld 2 rfl rfl, ?_⟩
  refine ⟨[0, 0], _, rvI_ok _ g data off last e _ ⟨A, k, cap, xs, rfl, hk, hx, hg⟩ _ _ (fun x err off' hx => hx = [] ∧ x = (limD most (data.drop off)).2.1 ∧ err = (limD most (data.drop off)).1 ∧ (err = 0 → off' + (limD most (data.drop off)).2.2.length = data.length)) (fun he R' h1 hRR hr1 => ?_), ?_⟩
  · refine (count1_ok R' g b1 b2 data off last h1 most hm1 ho hd hr1 (hRR _ _ (ld 0 rfl rfl)) (hRR _ _ (ld 1 rfl rfl))).mono (fun _ _ h => h) ?_
    rintro v h' ⟨off', rfl, hr', hoff⟩
    exact ⟨_, _, off', h', [], rfl, hr', by simp, rfl, rfl, rfl, hoff⟩
  · rintro v h' (⟨he, rfl, hr'⟩ | ⟨rfl, x, err, off', h2, hx, ⟨rfl, rfl, rfl, hoff⟩, hc⟩)
    · refine ⟨_, Ent.dropr [_, _] _, ?_, nxt_same he hr'⟩
      rw [if_neg he]; rfl
    · rcases hc with ⟨herr, rfl, hr', rfl⟩ | ⟨herr, rfl, hr'⟩
      · rw [List.append_nil]
        exact ⟨_, Ent.dropr [_, _] _, rfl, nxt_yes herr hr' (hoff herr)⟩
      · refine ⟨_, Ent.dropr [_, _] _, ?_, nxt_no herr hr'⟩
        rw [if_pos rfl, limD_err herr]; rfl

theorem uintD_le (l : List UInt8) : (uintD l).2.1 ≤ 18446744073709551615 := by
  unfold uintD
  split
  · simp
  · rename_i h; exact (dec_iff.1 h).2

theorem RInt_ok (R : Rd) (g : Nat) (data : List UInt8) (off last : Nat) (e : Int) (h : Hp) (ho : off ≤ data.length) (hd : data.length ≤ 1000000000) (hr : IsR g data off last e h) :
    Fn Try.prog 49 [.pointer (some ⟨g, 0, .none⟩)] h R (fun v h' => v = .int .i64 (if e = 0 then zag (uintD (data.drop off)).2.1 else 0) ∧
      IsRn g data (nxt data off last e (uintD (data.drop off)).1 (uintD (data.drop off)).2.2) h') := by
  obtain ⟨A, k, cap, xs, rfl, hk, hx, hg⟩ := hr
  have hul := uintD_le (data.drop off)
  refine fn_of_vc mixed tabOk Try.func49 rfl (by kernel_rfl) (Nat.le_of_ble_eq_true rfl) ?_
  refine ⟨[0, 0], _, RUint_ok _ g data off last e _ ho (by omega) ⟨A, k, cap, xs, rfl, hk, hx, hg⟩, ?_⟩
  clear hk hx hg
  rintro v h' ⟨rfl, A, k, cap, xs, rfl, hk, hx, hg⟩
  refine ⟨[], _, Unzigzag_ok _ (if e = 0 then (uintD (data.drop off)).2.1 else 0) (by split <;> omega), ?_⟩
  rintro v h'' ⟨rfl, rfl⟩
  refine ⟨_, Ent.refl _, ?_, A, k, cap, xs, rfl, hk, hx, hg⟩
  show Value.int _ _ = _
  split <;> rfl

theorem RLeft_ok (R : Rd) (g : Nat) (data : List UInt8) (off last : Nat) (e : Int) (h : Hp) (ho : off ≤ data.length) (hd : data.length ≤ 1000000000) (hr : IsR g data off last e h) :
    Fn Try.prog 32 [.pointer (some ⟨g, 0, .none⟩)] h R (fun v h' => v = .int .i64 (data.length - off : Nat) ∧ IsR g data off last e h') := by
  obtain ⟨A, k, cap, xs, rfl, hk, hx, hg⟩ := hr
  refine fn_of_vc mixed tabOk Try.func32 rfl (by kernel_rfl) (Nat.le_of_ble_eq_true rfl) ?_
  refine ⟨[0], lexT 0 11, by kernel_rfl, ?_⟩
  refine ⟨_, ld 0 rfl rfl, ?_⟩
  refine ⟨_, ld 0 rfl rfl, ?_⟩
  (intro z hz; obtain rfl := wr_i64 hz (by omega) (by omega); clear hz)
  refine ⟨_, Ent.refl _, ?_, A, k, cap, xs, rfl, hk, hx, hg⟩
  show Value.int _ _ = _
  congr 1
  omega

theorem RFail_ok (R : Rd) (g : Nat) (data : List UInt8) (off last : Nat) (e : Int) (h : Hp) (hr : IsR g data off last e h) :
    Fn Try.prog 38 [.pointer (some ⟨g, 0, .none⟩)] h R (fun _ h' => IsRn g data (if e = 0 then (last, last, 3) else (off, last, e)) h') := by
  obtain ⟨A, k, cap, xs, rfl, hk, hx, hg⟩ := hr
  refine fn_of_vc mixed tabOk Try.func38 rfl (by kernel_rfl) (Nat.le_of_ble_eq_true rfl) ?_
  refine ⟨_, ld 0 rfl rfl, ?_⟩
  refine ⟨fun hb => ?_, fun hb => ?_⟩
  · replace hb := of_decide_eq_true hb
    subst hb
    refine ⟨rfl, rfl, 0, rfl, rfl, Nat.le_of_ble_eq_true rfl, ?_⟩
    refine ⟨_, ld 0 rfl rfl, ?_⟩
    refine ⟨rfl, rfl, 0, rfl, rfl, Nat.le_of_ble_eq_true rfl, ?_⟩
    exact ⟨_, Ent.refl _, A, k, cap, xs, rfl, hk, hx, hg⟩
  · replace hb := of_decide_eq_false hb
    rw [if_neg hb]
    exact ⟨_, Ent.refl _, A, k, cap, xs, rfl, hk, hx, hg⟩

end Go.Proofs.Ytknilabilihlnaa
