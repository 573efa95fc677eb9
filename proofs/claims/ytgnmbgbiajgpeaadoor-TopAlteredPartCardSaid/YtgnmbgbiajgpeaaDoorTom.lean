/-
  Top: the law TopAltered.
-/
import Derived.Test.YtgnmbgbiajgpeaaDoorTol
namespace Go.Proofs.YtgnmbgbiajgpeaaDoor
open Go Go.RowKit
set_option linter.unusedVariables false
set_option linter.unusedSimpArgs false

/-- The references of the first pieces. -/
def refsK (c : UInt8) (sz : Int) (k : Nat) : List RefD := (List.range k).map fun i => ⟨nm15 c (UInt8.ofNat i), 0, sz⟩
theorem refsK_length (c : UInt8) (sz : Int) (k : Nat) : (refsK c sz k).length = k := by simp [refsK]
theorem refsK_succ (c : UInt8) (sz : Int) (k : Nat) : refsK c sz (k + 1) = refsK c sz k ++ [⟨nm15 c (UInt8.ofNat k), 0, sz⟩] := by simp [refsK, List.range_succ]
theorem ofNat_inj {i j : Nat} (hi : i < 256) (hj : j < 256) (h : UInt8.ofNat i = UInt8.ofNat j) : i = j := by
  have := congrArg UInt8.toNat h
  simpa [Nat.mod_eq_of_lt hi, Nat.mod_eq_of_lt hj] using this
theorem refsK_good {c : UInt8} {sz : Int} {k : Nat} (hk : k ≤ 256) (h0 : 0 ≤ sz) (h1 : sz ≤ 32768) : GoodRefs (refsK c sz k) := by
  have hm : ∀ r ∈ refsK c sz k, ∃ i, i < k ∧ r = ⟨nm15 c (UInt8.ofNat i), 0, sz⟩ := fun r hr => by
    obtain ⟨i, hi, rfl⟩ := List.mem_map.1 hr
    exact ⟨i, List.mem_range.1 hi, rfl⟩
  constructor
  · rw [refsK_length]; omega
  · intro r hr; obtain ⟨i, _, rfl⟩ := hm r hr; rfl
  · intro r hr; obtain ⟨i, _, rfl⟩ := hm r hr; exact Int.le_refl 0
  · intro r hr; obtain ⟨i, _, rfl⟩ := hm r hr; exact h0
  · intro r hr; obtain ⟨i, _, rfl⟩ := hm r hr; exact h1
  · unfold refsK
    rw [List.map_map]
    refine List.pairwise_map.2 (List.Pairwise.imp_of_mem (fun {i j} hi hj hne e => hne ?_) List.nodup_range)
    have hi := List.mem_range.1 hi
    have hj := List.mem_range.1 hj
    have e : nm15 c (UInt8.ofNat i) = nm15 c (UInt8.ofNat j) := e
    exact ofNat_inj (by omega) (by omega) (List.cons.inj (List.cons.inj e).2).1
theorem idx15 (i : Int) {n : Nat} (hn : 0 < n) : ∃ j : Nat, j < n ∧ (i.tmod (n : Int) + n).tmod (n : Int) = j := by
  have h1 : -(n : Int) < i.tmod n := Int.lt_tmod_of_pos i (by omega)
  have h2 := Int.tmod_nonneg (n : Int) (show 0 ≤ i.tmod (n : Int) + n by omega)
  have h3 := Int.tmod_lt_of_pos (i.tmod (n : Int) + n) (show (0 : Int) < n by omega)
  exact ⟨((i.tmod (n : Int) + n).tmod (n : Int)).toNat, by omega, by omega⟩
/-- One block: its sum is its leaf. -/
theorem sumE_one {x : Str} (h1 : 0 < x.length) (h2 : x.length ≤ 512) : sumE x = sha (0 :: x) := by
  unfold sumE
  rw [blockLeaves_cons h1 (by decide), List.drop_of_length_le h2, blockLeaves_nil, List.take_of_length_le h2]
  exact rootOf_one rfl

theorem u8_wrapN {k : Nat} {z : Int} (hz : z = IntKind.u8.wrap (k : Int)) : z = ((UInt8.ofNat k).toNat : Nat) := by
  rw [hz]; simp [IntKind.wrap, IntKind.bits, IntKind.signed]
theorem refsC_app (a b : List RefD) : refsC (a ++ b) = refsC a ++ refsC b := List.flatMap_append
theorem refs_own {R : Rd} {h : Hp} (i : Nat) {A : Option Addr} {k cap : Nat} {e : TypeId} {l : List RefD} (hi : h[i]? = some (.row A k cap e 3 (refsC l) (0, 0))) (hk : l.length = k) (hg : grow k A) : RefsR (RH R h) (.slice A k cap) l := by
  subst hk
  exact SlR.own i hi (refsC_length l) hg
set_option maxRecDepth 100000 in
set_option maxHeartbeats 8000000 in
theorem TopAltered_law (R : Rd) (hG : ShaG R) (v0 v1 v2 v3 v4 : Value) (s0 : SeenV R (.int .i64) v0) (s1 : SeenV R (.int .i64) v1) (s2 : SeenV R (.sl 1 (.sl 1 (.int .u8))) v2) (s3 : SeenV R (.int .i64) v3) (s4 : SeenV R PcShpT v4) :
    Fn Tryd.prog 3 [v0, v1, v2, v3, v4] [] R (fun v _ => v = .bool true) := by
  have hML := maxLen_eq
  obtain ⟨d, rfl, hd1, hd2⟩ := s0.i64
  obtain ⟨t, rfl, ht1, ht2⟩ := s1.i64
  obtain ⟨bl, hbl, hB, hBx⟩ := s2.bssT
  obtain ⟨ix, rfl, hi1, hi2⟩ := s3.i64
  obtain ⟨q, D, S, rfl, hD, hS, hqi, hql, hqsl⟩ := s4.pcT
  have hB' := hB
  obtain ⟨A2, c2, vs2, rfl, _⟩ := hB'
  have hD' := hD
  obtain ⟨DA, dc, rfl, hdc, hdr⟩ := hD'
  have hS' := hS
  obtain ⟨SA, sc, rfl, hsc, hsr⟩ := hS'
  refine fn_of_vc mixed tabOk Tryd.func3 rfl (by kernel_rfl) (Nat.le_of_ble_eq_true rfl) ?_
  intro gq
  refine ⟨[], _, Awake15_ok _ (hG.rh _), ?_⟩
  rintro _ _ ⟨rfl, rfl⟩
  repeat (first | (refine ⟨fun h => ?_, fun h => ?_⟩; rotate_left 1; (focus (exfalso; (first | (with_reducible (cases h; done)) | (revert h; simp; done) | (revert h; simp; omega) | (revert h; simp [*]; done)))); clear h) | (refine ⟨fun h => ?_, fun h => ?_⟩; (focus (exfalso; (first | (with_reducible (cases h; done)) | (revert h; simp; done) | (revert h; simp; omega) | (revert h; simp [*]; done)))); clear h))
  by_cases h1 : d < 1
  · repeat (first | (refine ⟨fun h => ?_, fun h => ?_⟩; rotate_left 1; (focus (exfalso; (first | (with_reducible (cases h; done)) | (revert h; simp; done) | (revert h; simp; omega) | (revert h; simp [*]; done)))); clear h) | (refine ⟨fun h => ?_, fun h => ?_⟩; (focus (exfalso; (first | (with_reducible (cases h; done)) | (revert h; simp; done) | (revert h; simp; omega) | (revert h; simp [*]; done)))); clear h))
    refine ⟨[], _, Awake15_ok _ (hG.rh _), ?_⟩
    rintro _ _ ⟨rfl, rfl⟩
    exact ⟨_, Ent.nil _, rfl⟩
  repeat (first | (refine ⟨fun h => ?_, fun h => ?_⟩; rotate_left 1; (focus (exfalso; (first | (with_reducible (cases h; done)) | (revert h; simp; done) | (revert h; simp; omega) | (revert h; simp [*]; done)))); clear h) | (refine ⟨fun h => ?_, fun h => ?_⟩; (focus (exfalso; (first | (with_reducible (cases h; done)) | (revert h; simp; done) | (revert h; simp; omega) | (revert h; simp [*]; done)))); clear h))
  by_cases h2 : t < d
  · repeat (first | (refine ⟨fun h => ?_, fun h => ?_⟩; rotate_left 1; (focus (exfalso; (first | (with_reducible (cases h; done)) | (revert h; simp; done) | (revert h; simp; omega) | (revert h; simp [*]; done)))); clear h) | (refine ⟨fun h => ?_, fun h => ?_⟩; (focus (exfalso; (first | (with_reducible (cases h; done)) | (revert h; simp; done) | (revert h; simp; omega) | (revert h; simp [*]; done)))); clear h))
    refine ⟨[], _, Awake15_ok _ (hG.rh _), ?_⟩
    rintro _ _ ⟨rfl, rfl⟩
    exact ⟨_, Ent.nil _, rfl⟩
  repeat (first | (refine ⟨fun h => ?_, fun h => ?_⟩; rotate_left 1; (focus (exfalso; (first | (with_reducible (cases h; done)) | (revert h; simp; done) | (revert h; simp; omega) | (revert h; simp [*]; done)))); clear h) | (refine ⟨fun h => ?_, fun h => ?_⟩; (focus (exfalso; (first | (with_reducible (cases h; done)) | (revert h; simp; done) | (revert h; simp; omega) | (revert h; simp [*]; done)))); clear h))
  by_cases h3 : 6 < t
  · repeat (first | (refine ⟨fun h => ?_, fun h => ?_⟩; rotate_left 1; (focus (exfalso; (first | (with_reducible (cases h; done)) | (revert h; simp; done) | (revert h; simp; omega) | (revert h; simp [*]; done)))); clear h) | (refine ⟨fun h => ?_, fun h => ?_⟩; (focus (exfalso; (first | (with_reducible (cases h; done)) | (revert h; simp; done) | (revert h; simp; omega) | (revert h; simp [*]; done)))); clear h))
    refine ⟨[], _, Awake15_ok _ (hG.rh _), ?_⟩
    rintro _ _ ⟨rfl, rfl⟩
    exact ⟨_, Ent.nil _, rfl⟩
  repeat (first | (refine ⟨fun h => ?_, fun h => ?_⟩; rotate_left 1; (focus (exfalso; (first | (with_reducible (cases h; done)) | (revert h; simp; done) | (revert h; simp; omega) | (revert h; simp [*]; done)))); clear h) | (refine ⟨fun h => ?_, fun h => ?_⟩; (focus (exfalso; (first | (with_reducible (cases h; done)) | (revert h; simp; done) | (revert h; simp; omega) | (revert h; simp [*]; done)))); clear h))
  by_cases h4 : (bl.length : Int) = d
  case neg =>
    repeat (first | (refine ⟨fun h => ?_, fun h => ?_⟩; rotate_left 1; (focus (exfalso; (first | (with_reducible (cases h; done)) | (revert h; simp; done) | (revert h; simp; omega) | (revert h; simp [*]; done)))); clear h) | (refine ⟨fun h => ?_, fun h => ?_⟩; (focus (exfalso; (first | (with_reducible (cases h; done)) | (revert h; simp; done) | (revert h; simp; omega) | (revert h; simp [*]; done)))); clear h))
    refine ⟨[], _, Awake15_ok _ (hG.rh _), ?_⟩
    rintro _ _ ⟨rfl, rfl⟩
    exact ⟨_, Ent.nil _, rfl⟩
  repeat (first | (refine ⟨fun h => ?_, fun h => ?_⟩; rotate_left 1; (focus (exfalso; (first | (with_reducible (cases h; done)) | (revert h; simp; done) | (revert h; simp; omega) | (revert h; simp [*]; done)))); clear h) | (refine ⟨fun h => ?_, fun h => ?_⟩; (focus (exfalso; (first | (with_reducible (cases h; done)) | (revert h; simp; done) | (revert h; simp; omega) | (revert h; simp [*]; done)))); clear h))
  refine ⟨_, ld 0 rfl rfl, ?_⟩
  by_cases h5 : (300 : Int) < q.dt.length
  · repeat (first | (refine ⟨fun h => ?_, fun h => ?_⟩; rotate_left 1; (focus (exfalso; (first | (with_reducible (cases h; done)) | (revert h; simp; done) | (revert h; simp; omega) | (revert h; simp [*]; done)))); clear h) | (refine ⟨fun h => ?_, fun h => ?_⟩; (focus (exfalso; (first | (with_reducible (cases h; done)) | (revert h; simp; done) | (revert h; simp; omega) | (revert h; simp [*]; done)))); clear h))
    refine ⟨[], _, Awake15_ok _ (hG.rh _), ?_⟩
    rintro _ _ ⟨rfl, rfl⟩
    exact ⟨_, Ent.nil _, rfl⟩
  repeat (first | (refine ⟨fun h => ?_, fun h => ?_⟩; rotate_left 1; (focus (exfalso; (first | (with_reducible (cases h; done)) | (revert h; simp; done) | (revert h; simp; omega) | (revert h; simp [*]; done)))); clear h) | (refine ⟨fun h => ?_, fun h => ?_⟩; (focus (exfalso; (first | (with_reducible (cases h; done)) | (revert h; simp; done) | (revert h; simp; omega) | (revert h; simp [*]; done)))); clear h))
  refine ⟨_, ld 0 rfl rfl, ?_⟩
  by_cases h6 : (16 : Int) < q.sums.length
  · repeat (first | (refine ⟨fun h => ?_, fun h => ?_⟩; rotate_left 1; (focus (exfalso; (first | (with_reducible (cases h; done)) | (revert h; simp; done) | (revert h; simp; omega) | (revert h; simp [*]; done)))); clear h) | (refine ⟨fun h => ?_, fun h => ?_⟩; (focus (exfalso; (first | (with_reducible (cases h; done)) | (revert h; simp; done) | (revert h; simp; omega) | (revert h; simp [*]; done)))); clear h))
    refine ⟨[], _, Awake15_ok _ (hG.rh _), ?_⟩
    rintro _ _ ⟨rfl, rfl⟩
    exact ⟨_, Ent.nil _, rfl⟩
  repeat (first | (refine ⟨fun h => ?_, fun h => ?_⟩; rotate_left 1; (focus (exfalso; (first | (with_reducible (cases h; done)) | (revert h; simp; done) | (revert h; simp; omega) | (revert h; simp [*]; done)))); clear h) | (refine ⟨fun h => ?_, fun h => ?_⟩; (focus (exfalso; (first | (with_reducible (cases h; done)) | (revert h; simp; done) | (revert h; simp; omega) | (revert h; simp [*]; done)))); clear h))
  refine ⟨_, ld 0 rfl rfl, ?_⟩
  by_cases h7 : (64 : Int) < q.st.length
  · repeat (first | (refine ⟨fun h => ?_, fun h => ?_⟩; rotate_left 1; (focus (exfalso; (first | (with_reducible (cases h; done)) | (revert h; simp; done) | (revert h; simp; omega) | (revert h; simp [*]; done)))); clear h) | (refine ⟨fun h => ?_, fun h => ?_⟩; (focus (exfalso; (first | (with_reducible (cases h; done)) | (revert h; simp; done) | (revert h; simp; omega) | (revert h; simp [*]; done)))); clear h))
    refine ⟨[], _, Awake15_ok _ (hG.rh _), ?_⟩
    rintro _ _ ⟨rfl, rfl⟩
    exact ⟨_, Ent.nil _, rfl⟩
  repeat (first | (refine ⟨fun h => ?_, fun h => ?_⟩; rotate_left 1; (focus (exfalso; (first | (with_reducible (cases h; done)) | (revert h; simp; done) | (revert h; simp; omega) | (revert h; simp [*]; done)))); clear h) | (refine ⟨fun h => ?_, fun h => ?_⟩; (focus (exfalso; (first | (with_reducible (cases h; done)) | (revert h; simp; done) | (revert h; simp; omega) | (revert h; simp [*]; done)))); clear h))
  refine ⟨rfl, fun g1 => ?_⟩
  clear s0 s1 s2 s3 s4
  refine ⟨[none, none, none, none, none, none, none, none, none, none, some 10, some 11, some 12, none, none, none, none, none, none, none, none, none, none, none, none, none, none, none, none, none, none, none, none, none, none, none, none, none, none, none, none, none, none, none, none, none, none, none, none, none, none, none, none, none, none, none, none, none, none, none, none, none, none, none, none, none, none, some 67, some 68, some 69, some 70, some 71, some 72, some 73, some 74, some 75, some 76, some 77, some 78, some 79, some 80, some 81, some 82, some 83], [11, 67], Nat × Option Addr × Nat × List Value, fun ⟨k, A, cap, xs⟩ => k ≤ bl.length ∧ grow k A ∧ xs = refsC (refsK 3 9 k) ∧ (∀ x ∈ bl.take k, x.length = 64), fun ⟨k, A, cap, xs⟩ => [.slice A k cap, .int .i64 k],
    fun ⟨k, A, cap, xs⟩ => [.blk gq 28 (pcC q (.slice DA q.dt.length dc) (.slice SA q.sums.length sc)), .row A k cap 33 3 xs (0, 0)], fun ⟨k, _⟩ => bl.length - k,
    (0, some ⟨g1, 0, .none⟩, 0, []), ⟨Nat.zero_le _, .inr ⟨g1, rfl⟩, rfl, by simp⟩, ⟨rfl, rfl, trivial⟩, Ent.refl _, ?_⟩
  rintro ⟨k, A, cap, xs⟩ ⟨hk, hg, hxs, h64⟩ js
  have hk : k ≤ bl.length := hk
  have hg : grow k A := hg
  have hxs : xs = refsC (refsK 3 9 k) := hxs
  have h64 : ∀ x ∈ bl.take k, x.length = 64 := h64
  by_cases c1 : k < bl.length
  · repeat (first | (refine ⟨fun h => ?_, fun h => ?_⟩; rotate_left 1; (focus (exfalso; (first | (with_reducible (cases h; done)) | (revert h; simp; done) | (revert h; simp; omega) | (revert h; simp [*]; done)))); clear h) | (refine ⟨fun h => ?_, fun h => ?_⟩; (focus (exfalso; (first | (with_reducible (cases h; done)) | (revert h; simp; done) | (revert h; simp; omega) | (revert h; simp [*]; done)))); clear h))
    have hx : bl[k]? = some (bl.getD k []) := by rw [List.getD_eq_getElem?_getD, List.getElem?_eq_getElem c1]; rfl
    obtain ⟨a, B, bc, hA, hra, hbx⟩ := hB.at_ (i := k) c1
    refine ⟨by omega, by omega, a, hA, ?_⟩
    refine ⟨_, .inl hra, ?_⟩
    clear hbx
    generalize bl.getD k [] = x at hx hra ⊢
    by_cases c2 : (x.length : Int) = 64
    case neg =>
      repeat (first | (refine ⟨fun h => ?_, fun h => ?_⟩; rotate_left 1; (focus (exfalso; (first | (with_reducible (cases h; done)) | (revert h; simp; done) | (revert h; simp; omega) | (revert h; simp [*]; done)))); clear h) | (refine ⟨fun h => ?_, fun h => ?_⟩; (focus (exfalso; (first | (with_reducible (cases h; done)) | (revert h; simp; done) | (revert h; simp; omega) | (revert h; simp [*]; done)))); clear h))
      exact ⟨_, Ent.nil _, rfl⟩
    repeat (first | (refine ⟨fun h => ?_, fun h => ?_⟩; rotate_left 1; (focus (exfalso; (first | (with_reducible (cases h; done)) | (revert h; simp; done) | (revert h; simp; omega) | (revert h; simp [*]; done)))); clear h) | (refine ⟨fun h => ?_, fun h => ?_⟩; (focus (exfalso; (first | (with_reducible (cases h; done)) | (revert h; simp; done) | (revert h; simp; omega) | (revert h; simp [*]; done)))); clear h))
    intro z hz
    obtain rfl : z = ((UInt8.ofNat k).toNat : Nat) := u8_wrapN hz
    clear hz
    refine ⟨[], _, Name15_ok _ 3 (UInt8.ofNat k), ?_⟩
    rintro _ _ ⟨rfl, rfl⟩
    refine ⟨rfl, fun g2 => ?_⟩
    refine ⟨refsC [⟨nm15 3 (UInt8.ofNat k), 0, 9⟩], rfl, srcS (SlR.own 2 rfl rfl (.inr ⟨g2, rfl⟩)), rfl, by show (_ + 1) * 32 ≤ _; omega, by omega, .inr ⟨1, rfl, rfl, rfl, rfl, rfl, rfl, fun A' cap' hg' => ?_⟩⟩
    (intro z hz; obtain rfl : z = ((k + 1 : Nat) : Int) := (by first | (rw [IntKind.wrap_i64] at hz; omega) | (rw [IntKind.wrap_u64] at hz; omega) | omega); clear hz)
    refine ⟨rfl, (k + 1, A', cap', xs ++ refsC [⟨nm15 3 (UInt8.ofNat k), 0, 9⟩]), ⟨c1, hg', by rw [refsK_succ, refsC_app, hxs], ?_⟩, by show bl.length - (k + 1) < bl.length - k; omega, ⟨rfl, rfl, trivial⟩, Ent.pick [0, 0] rfl, rfl⟩
    intro y hy
    rw [List.take_add_one, hx] at hy
    rcases List.mem_append.1 hy with hy | hy
    · exact h64 y hy
    · rw [List.mem_singleton.1 hy]; omega
  repeat (first | (refine ⟨fun h => ?_, fun h => ?_⟩; rotate_left 1; (focus (exfalso; (first | (with_reducible (cases h; done)) | (revert h; simp; done) | (revert h; simp; omega) | (revert h; simp [*]; done)))); clear h) | (refine ⟨fun h => ?_, fun h => ?_⟩; (focus (exfalso; (first | (with_reducible (cases h; done)) | (revert h; simp; done) | (revert h; simp; omega) | (revert h; simp [*]; done)))); clear h))
  obtain rfl : k = bl.length := by omega
  rw [List.take_length] at h64
  subst h4 hxs
  obtain ⟨n, rfl⟩ : ∃ n : Nat, t = n := ⟨t.toNat, by omega⟩
  have hBk : BlkR bl 64 := ⟨by decide, by decide, h64⟩
  have hgr : GoodRefs (refsK 3 9 bl.length) := refsK_good (by omega) (by decide) (by decide)
  have hcl : ∀ r ∈ refsK 3 9 bl.length, clsF r.sz.toNat = 64 := fun r hr => by
    obtain ⟨i, _, rfl⟩ := List.mem_map.1 hr
    exact clsV_small (n := 9) (by decide)
  have hrl := refsK_length 3 9 bl.length
  refine ⟨[], _, Make_ok (s := true) _ (hG.rh _) bl.length n 64 bl (refsK 3 9 bl.length) (.slice A bl.length cap) _ (by omega) (by omega) (by omega) (by omega) (by omega) (by omega) hBk hrl.symm hgr hcl (refs_own 1 rfl hrl hg) (hB.rh _), ?_⟩
  rintro _ _ ⟨u, Rf, ids, C, rfl, rfl, hu, hR⟩
  have hR' := hR
  obtain ⟨_, Ar, cr, rfl, _⟩ := hR'
  have hu' := hu
  obtain ⟨Au, cu, lu, rfl, _⟩ := hu'
  intro gs
  refine ⟨rfl, rfl, 3, rfl, rfl, Nat.le_of_ble_eq_true rfl, ?_⟩
  have hLl := rsE_length bl.length n bl 64
  have hLx := rsE_lens (data := bl.length) (total := n) (by omega) (by omega) (by omega) (by omega) (Nat.le_refl _) hBk
  have hgs : GoodSt (mkSt bl.length n 64 bl) (refsK 3 9 bl.length) := mk_good (by omega) (by omega) (by omega) (by omega) (by omega) (Nat.le_refl _) hrl.symm hgr hcl
  have hfit : ∀ i, i < n → FitP (mkSt bl.length n 64 bl) (pcI (rsE bl.length n bl 64) i) := fun i hi => mk_fits (by omega) (by omega) (by omega) (by omega) (Nat.le_refl _) hBk hi
  generalize rsE bl.length n bl 64 = L at hLl hLx hfit hu ⊢
  have hpl : (pcsE L).length = n := by rw [pcsE_length, hLl]
  rw [hpl] at hu ⊢
  repeat (first | (refine ⟨fun h => ?_, fun h => ?_⟩; rotate_left 1; (focus (exfalso; (first | (with_reducible (cases h; done)) | (revert h; simp; done) | (revert h; simp; omega) | (revert h; simp [*]; done)))); clear h) | (refine ⟨fun h => ?_, fun h => ?_⟩; (focus (exfalso; (first | (with_reducible (cases h; done)) | (revert h; simp; done) | (revert h; simp; omega) | (revert h; simp [*]; done)))); clear h))
  have hb1 : -(n : Int) < ix.tmod n := Int.lt_tmod_of_pos ix (by omega)
  have hb2 : ix.tmod n < n := Int.tmod_lt_of_pos ix (by omega)
  obtain ⟨j, hj, hjz⟩ := idx15 ix (n := n) (by omega)
  refine ⟨by omega, ?_⟩
  intro z hz
  rw [← hz] at hb1 hb2 hjz
  clear hz
  intro y hy
  obtain rfl : y = z + n := by rw [IntKind.wrap_i64] at hy; omega
  clear hy
  refine ⟨by omega, ?_⟩
  intro w hw
  obtain rfl : w = j := by rw [hw]; exact hjz
  clear hw hjz
  have hp1 : (pcsE L)[j]? = some (pcI L j) := pcsE_get (by omega)
  obtain ⟨a, PD, PS, rfl, hra, hPD, hPS⟩ := hu.at_ hp1
  obtain ⟨p, hp⟩ : ∃ p : Pc, p = pcI L j := ⟨_, rfl⟩
  have hfp := hfit j hj
  rw [← hp] at hra hPD hPS hfp
  clear hp hp1 hfit
  refine ⟨by omega, by omega, a, rfl, ?_⟩
  refine ⟨_, fun j u h => ro_rh 2 rfl _ _ (rdn hra j u h), rfl, ?_⟩
  intro gp
  have hPD' := hPD
  obtain ⟨PA, pc, rfl, hpc, hpdr⟩ := hPD'
  have hPS' := hPS
  obtain ⟨QA, qc, rfl, hqc, hqsr⟩ := hPS'
  refine ⟨rfl, rfl, 4, rfl, rfl, Nat.le_of_ble_eq_true rfl, ?_⟩
  refine ⟨_, ld 0 rfl rfl, ?_⟩
  refine ⟨[none, none, none, none, none, none, none, none, none, none, some 10, none, none, none, none, none, none, none, some 18, none, none, none, none, none, none, none, none, none, none, none, none, none, none, none, none, none, none, none, none, none, none, none, none, none, none, none, none, none, none, none, none, none, none, none, none, none, none, none, none, none, none, none, none, none, none, none, none, none, none, none, none, none, none, none, none, none, none, none, none, none, none, none, none, none, none, none, none, none, none, none, none, none, none, none, none, none, none, none, none, none, none, none, none, none, none, none, none, none, none, none, none, none, none, none, some 114, some 115, some 116, some 117, some 118, some 119, some 120, some 121], [114], Nat, fun k => k ≤ q.sums.length ∧ ∀ x ∈ q.sums.take k, x.length ≤ 64, fun k => [.int .i64 k], fun _ => [.blk gq 28 (pcC q (.slice DA q.dt.length dc) (.slice SA q.sums.length sc)), .ro ids C, .blk gs 35 (stpC (mkSt bl.length n 64 bl) (.slice Ar (refsK 3 9 bl.length).length cr)), .blk gp 28 (pcC p (.slice PA p.dt.length pc) (.slice QA p.sums.length qc))], fun k => q.sums.length - k, 0, ⟨Nat.zero_le _, by simp⟩, ⟨rfl, trivial⟩, Ent.pick [0, 1, 1, 1] rfl, ?_⟩
  rintro k ⟨hk, h64q⟩ js2
  have hk : k ≤ q.sums.length := hk
  have h64q : ∀ x ∈ q.sums.take k, x.length ≤ 64 := h64q
  by_cases c1 : k < q.sums.length
  · repeat (first | (refine ⟨fun h => ?_, fun h => ?_⟩; rotate_left 1; (focus (exfalso; (first | (with_reducible (cases h; done)) | (revert h; simp; done) | (revert h; simp; omega) | (revert h; simp [*]; done)))); clear h) | (refine ⟨fun h => ?_, fun h => ?_⟩; (focus (exfalso; (first | (with_reducible (cases h; done)) | (revert h; simp; done) | (revert h; simp; omega) | (revert h; simp [*]; done)))); clear h))
    obtain ⟨y, hyA, hy⟩ := hsr.one c1
    have hga : q.sums[k]? = some (q.sums.getD k []) := by rw [List.getD_eq_getElem?_getD, List.getElem?_eq_getElem c1]; rfl
    generalize q.sums.getD k [] = x at *
    refine ⟨by omega, by omega, y, hyA, _, .inl hy, ?_⟩
    by_cases c2 : (64 : Int) < x.length
    · repeat (first | (refine ⟨fun h => ?_, fun h => ?_⟩; rotate_left 1; (focus (exfalso; (first | (with_reducible (cases h; done)) | (revert h; simp; done) | (revert h; simp; omega) | (revert h; simp [*]; done)))); clear h) | (refine ⟨fun h => ?_, fun h => ?_⟩; (focus (exfalso; (first | (with_reducible (cases h; done)) | (revert h; simp; done) | (revert h; simp; omega) | (revert h; simp [*]; done)))); clear h))
      exact ⟨_, Ent.nil _, rfl⟩
    repeat (first | (refine ⟨fun h => ?_, fun h => ?_⟩; rotate_left 1; (focus (exfalso; (first | (with_reducible (cases h; done)) | (revert h; simp; done) | (revert h; simp; omega) | (revert h; simp [*]; done)))); clear h) | (refine ⟨fun h => ?_, fun h => ?_⟩; (focus (exfalso; (first | (with_reducible (cases h; done)) | (revert h; simp; done) | (revert h; simp; omega) | (revert h; simp [*]; done)))); clear h))
    (intro z hz; obtain rfl : z = ((k + 1 : Nat) : Int) := (by first | (rw [IntKind.wrap_i64] at hz; omega) | (rw [IntKind.wrap_u64] at hz; omega) | omega); clear hz)
    refine ⟨rfl, k + 1, ⟨c1, ?_⟩, by show q.sums.length - (k + 1) < q.sums.length - k; omega, ⟨rfl, trivial⟩, Ent.refl _, rfl⟩
    intro y hy
    rw [List.take_add_one, hga] at hy
    rcases List.mem_append.1 hy with hy | hy
    · exact h64q y hy
    · rw [List.mem_singleton.1 hy]; omega
  repeat (first | (refine ⟨fun h => ?_, fun h => ?_⟩; rotate_left 1; (focus (exfalso; (first | (with_reducible (cases h; done)) | (revert h; simp; done) | (revert h; simp; omega) | (revert h; simp [*]; done)))); clear h) | (refine ⟨fun h => ?_, fun h => ?_⟩; (focus (exfalso; (first | (with_reducible (cases h; done)) | (revert h; simp; done) | (revert h; simp; omega) | (revert h; simp [*]; done)))); clear h))
  obtain rfl : k = q.sums.length := by omega
  rw [List.take_length] at h64q
  refine ⟨_, rdOff (o := 0) (n := 2) 0 rfl rfl, rfl, ?_⟩
  refine ⟨_, rdOff (o := 0) (n := 2) 3 rfl rfl, rfl, ?_⟩
  intro e he
  obtain rfl := id15 (s := q.st) (t := p.st) (i := q.ix) (j := p.ix) he
  clear he
  by_cases e1 : q.st = p.st ∧ q.ix = p.ix
  case neg =>
    rw [decide_eq_false e1]
    repeat (first | (refine ⟨fun h => ?_, fun h => ?_⟩; rotate_left 1; (focus (exfalso; (first | (with_reducible (cases h; done)) | (revert h; simp; done) | (revert h; simp; omega) | (revert h; simp [*]; done)))); clear h) | (refine ⟨fun h => ?_, fun h => ?_⟩; (focus (exfalso; (first | (with_reducible (cases h; done)) | (revert h; simp; done) | (revert h; simp; omega) | (revert h; simp [*]; done)))); clear h))
    exact ⟨_, Ent.nil _, rfl⟩
  rw [decide_eq_true e1]
  repeat (first | (refine ⟨fun h => ?_, fun h => ?_⟩; rotate_left 1; (focus (exfalso; (first | (with_reducible (cases h; done)) | (revert h; simp; done) | (revert h; simp; omega) | (revert h; simp [*]; done)))); clear h) | (refine ⟨fun h => ?_, fun h => ?_⟩; (focus (exfalso; (first | (with_reducible (cases h; done)) | (revert h; simp; done) | (revert h; simp; omega) | (revert h; simp [*]; done)))); clear h))
  refine ⟨_, rdOff (o := 0) (n := 6) 2 rfl rfl, rfl, ?_⟩
  repeat (first | (refine ⟨fun h => ?_, fun h => ?_⟩; rotate_left 1; (focus (exfalso; (first | (with_reducible (cases h; done)) | (revert h; simp; done) | (revert h; simp; omega) | (revert h; simp [*]; done)))); clear h) | (refine ⟨fun h => ?_, fun h => ?_⟩; (focus (exfalso; (first | (with_reducible (cases h; done)) | (revert h; simp; done) | (revert h; simp; omega) | (revert h; simp [*]; done)))); clear h))
  refine ⟨_, rdOff (o := 0) (n := 4) 0 rfl rfl, rfl, ?_⟩
  repeat (first | (refine ⟨fun h => ?_, fun h => ?_⟩; rotate_left 1; (focus (exfalso; (first | (with_reducible (cases h; done)) | (revert h; simp; done) | (revert h; simp; omega) | (revert h; simp [*]; done)))); clear h) | (refine ⟨fun h => ?_, fun h => ?_⟩; (focus (exfalso; (first | (with_reducible (cases h; done)) | (revert h; simp; done) | (revert h; simp; omega) | (revert h; simp [*]; done)))); clear h))
  refine ⟨[], _, SFits_ok _ (hG.rh _) (mkSt bl.length n 64 bl) (refsK 3 9 bl.length) q _ _ _ hgs (hR.mono fun a v h => ro_rh 1 rfl a v h) (hD.rh _) (hS.rh _), ?_⟩
  rintro _ _ ⟨rfl, rfl⟩
  by_cases e2 : FitP (mkSt bl.length n 64 bl) q
  case neg =>
    rw [decide_eq_false e2]
    repeat (first | (refine ⟨fun h => ?_, fun h => ?_⟩; rotate_left 1; (focus (exfalso; (first | (with_reducible (cases h; done)) | (revert h; simp; done) | (revert h; simp; omega) | (revert h; simp [*]; done)))); clear h) | (refine ⟨fun h => ?_, fun h => ?_⟩; (focus (exfalso; (first | (with_reducible (cases h; done)) | (revert h; simp; done) | (revert h; simp; omega) | (revert h; simp [*]; done)))); clear h))
    exact ⟨_, Ent.nil _, rfl⟩
  rw [decide_eq_true e2]
  repeat (first | (refine ⟨fun h => ?_, fun h => ?_⟩; rotate_left 1; (focus (exfalso; (first | (with_reducible (cases h; done)) | (revert h; simp; done) | (revert h; simp; omega) | (revert h; simp [*]; done)))); clear h) | (refine ⟨fun h => ?_, fun h => ?_⟩; (focus (exfalso; (first | (with_reducible (cases h; done)) | (revert h; simp; done) | (revert h; simp; omega) | (revert h; simp [*]; done)))); clear h))
  refine ⟨_, rdOff (o := 0) (n := 4) 3 rfl rfl, rfl, ?_⟩
  repeat (first | (refine ⟨fun h => ?_, fun h => ?_⟩; rotate_left 1; (focus (exfalso; (first | (with_reducible (cases h; done)) | (revert h; simp; done) | (revert h; simp; omega) | (revert h; simp [*]; done)))); clear h) | (refine ⟨fun h => ?_, fun h => ?_⟩; (focus (exfalso; (first | (with_reducible (cases h; done)) | (revert h; simp; done) | (revert h; simp; omega) | (revert h; simp [*]; done)))); clear h))
  refine ⟨_, rdOff (o := 0) (n := 4) 0 rfl rfl, rfl, ?_⟩
  repeat (first | (refine ⟨fun h => ?_, fun h => ?_⟩; rotate_left 1; (focus (exfalso; (first | (with_reducible (cases h; done)) | (revert h; simp; done) | (revert h; simp; omega) | (revert h; simp [*]; done)))); clear h) | (refine ⟨fun h => ?_, fun h => ?_⟩; (focus (exfalso; (first | (with_reducible (cases h; done)) | (revert h; simp; done) | (revert h; simp; omega) | (revert h; simp [*]; done)))); clear h))
  have hvp := hfp.2.2.2
  have hvq := e2.2.2.2
  have hn1 : p.sums.length = n := hfp.2.1
  have hn2 : q.sums.length = n := e2.2.1
  have hd64 : p.dt.length = 64 := hfp.2.2.1
  have hq64 : q.dt.length = 64 := e2.2.2.1
  have hsmP : Small p.sums := wf_small (by omega) hvp.wf.sums
  have hsmQ : Small q.sums := wf_small (by omega) hvq.wf.sums
  refine ⟨[], _, Same15_ok _ p q _ _ _ _ (by omega) (hPD.mono fun a v h => ro_rh 1 rfl a v h) (hPS.mono fun a v h => ro_rh 1 rfl a v h) (hD.rh _) (hS.rh _), ?_⟩
  rintro _ _ ⟨rfl, rfl⟩
  by_cases e3 : sameP p q
  · rw [decide_eq_true e3]
    repeat (first | (refine ⟨fun h => ?_, fun h => ?_⟩; rotate_left 1; (focus (exfalso; (first | (with_reducible (cases h; done)) | (revert h; simp; done) | (revert h; simp; omega) | (revert h; simp [*]; done)))); clear h) | (refine ⟨fun h => ?_, fun h => ?_⟩; (focus (exfalso; (first | (with_reducible (cases h; done)) | (revert h; simp; done) | (revert h; simp; omega) | (revert h; simp [*]; done)))); clear h))
    exact ⟨_, Ent.nil _, rfl⟩
  rw [decide_eq_false e3]
  repeat (first | (refine ⟨fun h => ?_, fun h => ?_⟩; rotate_left 1; (focus (exfalso; (first | (with_reducible (cases h; done)) | (revert h; simp; done) | (revert h; simp; omega) | (revert h; simp [*]; done)))); clear h) | (refine ⟨fun h => ?_, fun h => ?_⟩; (focus (exfalso; (first | (with_reducible (cases h; done)) | (revert h; simp; done) | (revert h; simp; omega) | (revert h; simp [*]; done)))); clear h))
  refine ⟨_, ld 3 rfl rfl, ?_⟩
  repeat (first | (refine ⟨fun h => ?_, fun h => ?_⟩; rotate_left 1; (focus (exfalso; (first | (with_reducible (cases h; done)) | (revert h; simp; done) | (revert h; simp; omega) | (revert h; simp [*]; done)))); clear h) | (refine ⟨fun h => ?_, fun h => ?_⟩; (focus (exfalso; (first | (with_reducible (cases h; done)) | (revert h; simp; done) | (revert h; simp; omega) | (revert h; simp [*]; done)))); clear h))
  refine ⟨_, ld 0 rfl rfl, ?_⟩
  repeat (first | (refine ⟨fun h => ?_, fun h => ?_⟩; rotate_left 1; (focus (exfalso; (first | (with_reducible (cases h; done)) | (revert h; simp; done) | (revert h; simp; omega) | (revert h; simp [*]; done)))); clear h) | (refine ⟨fun h => ?_, fun h => ?_⟩; (focus (exfalso; (first | (with_reducible (cases h; done)) | (revert h; simp; done) | (revert h; simp; omega) | (revert h; simp [*]; done)))); clear h))
  refine ⟨[], _, Lists15_ok _ _ (hG.rh _) p.sums q.sums _ _ rfl hsmP hsmQ (hPS.mono fun a v h => ro_rh 1 rfl a v h) (hS.rh _), ?_⟩
  rintro _ _ ⟨r, rfl, rfl, hr⟩
  cases r with
  | true =>
    repeat (first | (refine ⟨fun h => ?_, fun h => ?_⟩; rotate_left 1; (focus (exfalso; (first | (with_reducible (cases h; done)) | (revert h; simp; done) | (revert h; simp; omega) | (revert h; simp [*]; done)))); clear h) | (refine ⟨fun h => ?_, fun h => ?_⟩; (focus (exfalso; (first | (with_reducible (cases h; done)) | (revert h; simp; done) | (revert h; simp; omega) | (revert h; simp [*]; done)))); clear h))
    exact ⟨_, Ent.nil _, rfl⟩
  | false =>
  have hsum : p.sums = q.sums := by
    by_cases hne : p.sums = q.sums
    · exact hne
    · exact absurd (hr ⟨hn1.trans hn2.symm, hne, hvp.root.trans (e1.1.symm.trans hvq.root.symm), hvp.wf.sums, hvq.wf.sums⟩) (by decide)
  have hcol : (0 :: p.dt : Str) ≠ 0 :: q.dt ∧ sha (0 :: p.dt) = sha (0 :: q.dt) := by
    refine ⟨fun h => e3 ⟨⟨e1.1.symm, e1.2.symm⟩, (List.cons.inj h).2, hsum⟩, ?_⟩
    rw [← sumE_one (x := p.dt) (by omega) (by omega), ← sumE_one (x := q.dt) (by omega) (by omega)]
    have a1 : sumE p.dt = p.sums.getD p.ix.toNat [] := hvp.sum
    have a2 : sumE q.dt = q.sums.getD q.ix.toNat [] := hvq.sum
    rw [a1, a2, hsum, e1.2]
  repeat (first | (refine ⟨fun h => ?_, fun h => ?_⟩; rotate_left 1; (focus (exfalso; (first | (with_reducible (cases h; done)) | (revert h; simp; done) | (revert h; simp; omega) | (revert h; simp [*]; done)))); clear h) | (refine ⟨fun h => ?_, fun h => ?_⟩; (focus (exfalso; (first | (with_reducible (cases h; done)) | (revert h; simp; done) | (revert h; simp; omega) | (revert h; simp [*]; done)))); clear h))
  refine ⟨_, ld 3 rfl rfl, ?_⟩
  refine ⟨[], _, Blocks_ok _ (hG.rh _) p.dt PA pc 512 (by decide) (by omega) hpc (SlR.mono hpdr fun a v h => ro_rh 1 rfl a v h), ?_⟩
  rintro _ _ ⟨B1, k1, b1, L1, rfl, hgB1, hkB1, hcB1, hcc1⟩
  rcases hcc1 with ⟨c, _⟩ | ⟨_, rfl, hL1⟩
  · exact absurd c (by decide)
  refine ⟨_, ld 0 rfl rfl, ?_⟩
  refine ⟨[], _, Blocks_ok _ (hG.rh _) q.dt DA dc 512 (by decide) (by omega) hdc (hdr.rh _), ?_⟩
  rintro _ _ ⟨B2, k2, b2, L2, rfl, hgB2, hkB2, hcB2, hcc2⟩
  rcases hcc2 with ⟨c, _⟩ | ⟨_, rfl, hL2⟩
  · exact absurd c (by decide)
  have hsm1 : Small L1 := by rw [hL1]; exact blockLeaves_small (by omega)
  have hsm2 : Small L2 := by rw [hL2]; exact blockLeaves_small (by omega)
  repeat (first | (refine ⟨fun h => ?_, fun h => ?_⟩; rotate_left 1; (focus (exfalso; (first | (with_reducible (cases h; done)) | (revert h; simp; done) | (revert h; simp; omega) | (revert h; simp [*]; done)))); clear h) | (refine ⟨fun h => ?_, fun h => ?_⟩; (focus (exfalso; (first | (with_reducible (cases h; done)) | (revert h; simp; done) | (revert h; simp; omega) | (revert h; simp [*]; done)))); clear h))
  refine ⟨[], _, Lists15_ok _ _ (hG.rh _) L1 L2 _ _ rfl hsm1 hsm2 (Ss.own 4 rfl hkB1 hgB1 hcB1) (Ss.own 5 rfl hkB2 hgB2 hcB2), ?_⟩
  rintro _ _ ⟨r2, rfl, rfl, _⟩
  cases r2 with
  | true =>
    repeat (first | (refine ⟨fun h => ?_, fun h => ?_⟩; rotate_left 1; (focus (exfalso; (first | (with_reducible (cases h; done)) | (revert h; simp; done) | (revert h; simp; omega) | (revert h; simp [*]; done)))); clear h) | (refine ⟨fun h => ?_, fun h => ?_⟩; (focus (exfalso; (first | (with_reducible (cases h; done)) | (revert h; simp; done) | (revert h; simp; omega) | (revert h; simp [*]; done)))); clear h))
    exact ⟨_, Ent.nil _, rfl⟩
  | false =>
  repeat (first | (refine ⟨fun h => ?_, fun h => ?_⟩; rotate_left 1; (focus (exfalso; (first | (with_reducible (cases h; done)) | (revert h; simp; done) | (revert h; simp; omega) | (revert h; simp [*]; done)))); clear h) | (refine ⟨fun h => ?_, fun h => ?_⟩; (focus (exfalso; (first | (with_reducible (cases h; done)) | (revert h; simp; done) | (revert h; simp; omega) | (revert h; simp [*]; done)))); clear h))
  refine ⟨_, ld 3 rfl rfl, ?_⟩
  repeat (first | (refine ⟨fun h => ?_, fun h => ?_⟩; rotate_left 1; (focus (exfalso; (first | (with_reducible (cases h; done)) | (revert h; simp; done) | (revert h; simp; omega) | (revert h; simp [*]; done)))); clear h) | (refine ⟨fun h => ?_, fun h => ?_⟩; (focus (exfalso; (first | (with_reducible (cases h; done)) | (revert h; simp; done) | (revert h; simp; omega) | (revert h; simp [*]; done)))); clear h))
  refine ⟨p.dt, rfl, fun j b hb => ?_, ?_⟩
  · obtain ⟨a, ha, hc⟩ := BsR.at_ hpdr hb
    exact ⟨a, ha, ro_rh 1 rfl _ _ hc⟩
  repeat (first | (refine ⟨fun h => ?_, fun h => ?_⟩; rotate_left 1; (focus (exfalso; (first | (with_reducible (cases h; done)) | (revert h; simp; done) | (revert h; simp; omega) | (revert h; simp [*]; done)))); clear h) | (refine ⟨fun h => ?_, fun h => ?_⟩; (focus (exfalso; (first | (with_reducible (cases h; done)) | (revert h; simp; done) | (revert h; simp; omega) | (revert h; simp [*]; done)))); clear h))
  refine ⟨by rw [maxLen_eq]; show 1 + p.dt.length ≤ _; omega, ?_⟩
  repeat (first | (refine ⟨fun h => ?_, fun h => ?_⟩; rotate_left 1; (focus (exfalso; (first | (with_reducible (cases h; done)) | (revert h; simp; done) | (revert h; simp; omega) | (revert h; simp [*]; done)))); clear h) | (refine ⟨fun h => ?_, fun h => ?_⟩; (focus (exfalso; (first | (with_reducible (cases h; done)) | (revert h; simp; done) | (revert h; simp; omega) | (revert h; simp [*]; done)))); clear h))
  refine ⟨_, ld 0 rfl rfl, ?_⟩
  repeat (first | (refine ⟨fun h => ?_, fun h => ?_⟩; rotate_left 1; (focus (exfalso; (first | (with_reducible (cases h; done)) | (revert h; simp; done) | (revert h; simp; omega) | (revert h; simp [*]; done)))); clear h) | (refine ⟨fun h => ?_, fun h => ?_⟩; (focus (exfalso; (first | (with_reducible (cases h; done)) | (revert h; simp; done) | (revert h; simp; omega) | (revert h; simp [*]; done)))); clear h))
  refine ⟨q.dt, rfl, fun j b hb => (hdr.rh _).at_ hb, ?_⟩
  repeat (first | (refine ⟨fun h => ?_, fun h => ?_⟩; rotate_left 1; (focus (exfalso; (first | (with_reducible (cases h; done)) | (revert h; simp; done) | (revert h; simp; omega) | (revert h; simp [*]; done)))); clear h) | (refine ⟨fun h => ?_, fun h => ?_⟩; (focus (exfalso; (first | (with_reducible (cases h; done)) | (revert h; simp; done) | (revert h; simp; omega) | (revert h; simp [*]; done)))); clear h))
  refine ⟨by rw [maxLen_eq]; show 1 + q.dt.length ≤ _; omega, ?_⟩
  repeat (first | (refine ⟨fun h => ?_, fun h => ?_⟩; rotate_left 1; (focus (exfalso; (first | (with_reducible (cases h; done)) | (revert h; simp; done) | (revert h; simp; omega) | (revert h; simp [*]; done)))); clear h) | (refine ⟨fun h => ?_, fun h => ?_⟩; (focus (exfalso; (first | (with_reducible (cases h; done)) | (revert h; simp; done) | (revert h; simp; omega) | (revert h; simp [*]; done)))); clear h))
  refine ⟨[], _, Collides15_ok _ (hG.rh _) (0 :: p.dt) (0 :: q.dt) (by rw [List.length_cons]; omega) (by rw [List.length_cons]; omega), ?_⟩
  rintro _ _ ⟨rfl, rfl⟩
  rw [decide_eq_true hcol]
  repeat (first | (refine ⟨fun h => ?_, fun h => ?_⟩; rotate_left 1; (focus (exfalso; (first | (with_reducible (cases h; done)) | (revert h; simp; done) | (revert h; simp; omega) | (revert h; simp [*]; done)))); clear h) | (refine ⟨fun h => ?_, fun h => ?_⟩; (focus (exfalso; (first | (with_reducible (cases h; done)) | (revert h; simp; done) | (revert h; simp; omega) | (revert h; simp [*]; done)))); clear h))
  exact ⟨_, Ent.nil _, rfl⟩

end Go.Proofs.YtgnmbgbiajgpeaaDoor
