/-
  The law MerkleShows.
-/
import Derived.Test.YtgbdfpfiolbhlaaDoorMku
namespace Go.Proofs.YtgbdfpfiolbhlaaDoor
open Go Go.RowKit
set_option linter.unusedVariables false

def ShowPostc (x : Str) (size block : Int) (v : Value) (h : Hp) : Prop :=
  (¬ goodB x size block ∧ v = .tuple ⟨[.slice .none 0 0, .slice .none 0 0, .int .i64 1]⟩ ∧ h = []) ∨
  (goodB x size block ∧ ∃ A1 c1 bs A2 c2 p, h = [.row A2 p.length c2 9 1 (SV p) (0, 0), .row A1 bs.length c1 5 1 (BV bs) (0, 0)] ∧ grow p.length A2 ∧ grow bs.length A1 ∧ p.length ≤ c2 ∧ bs.length ≤ c1 ∧
    v = .tuple ⟨[.slice A1 bs.length c1, .slice A2 p.length c2, .int .i64 0]⟩ ∧ bs = blockOf x size.toNat block.toNat ∧ p = pathOf (blockLeaves size.toNat x) block.toNat)
theorem Show_okc (R : Rd) (hG : ShaG R) (x : Str) (A : Option Addr) (cap : Nat) (size block : Int) (hsz : size ≤ 9223372036854775807) (hx : x.length ≤ 1048576) (hcap : x.length ≤ cap) (hs : BsR R (.slice A x.length cap) x) :
    Fn Tryd.prog 41 [.slice A x.length cap, .int .i64 size, .int .i64 block] [] R (fun v h => ShowPostc x size block v h) :=
  Fn.post (Show_ok R hG x A cap size block hsz hx hcap hs) fun v h w p o => by
    rcases p with p | ⟨gd, A1, k1, c1, bs, A2, k2, c2, p, rfl, hg2, hg1, rfl, rfl, hv, hb, hp⟩
    · exact .inl p
    · exact .inr ⟨gd, A1, c1, bs, A2, c2, p, rfl, hg2, hg1, (row_cap o 0 rfl).1, (row_cap o 1 rfl).1, hv, hb, hp⟩
theorem add0_le {a : Str} (h : a.length ≤ 1000000) : ([0] : Str).length + a.length ≤ maxLen := by rw [maxLen_eq]; show 1 + _ ≤ _; omega

set_option maxRecDepth 100000 in
set_option maxHeartbeats 2000000 in
theorem MerkleShows_law (R : Rd) (hG : ShaG R) (v0 v1 v2 v3 : Value) (s0 : SeenV R (.sl 1 (.int .u8)) v0) (s1 : SeenV R (.int .i64) v1) (s2 : SeenV R (.int .i64) v2) (s3 : SeenV R (.sl 1 (.int .u8)) v3) :
    Fn Tryd.prog 13 [v0, v1, v2, v3] [] R (fun v _ => v = .bool true) := by
  obtain ⟨x, A, cap, rfl, hx, hcap, hs⟩ := s0.bytesCap
  obtain ⟨size, rfl, hsz0, hsz⟩ := s1.i64
  obtain ⟨block, rfl, hb0, hb1⟩ := s2.i64
  obtain ⟨other, C, cap3, rfl, ho, hcap3, hso⟩ := s3.bytesCap
  have hML := maxLen_eq
  refine fn_of_vc mixed tabOk Tryd.func13 rfl (by kernel_rfl) (Nat.le_of_ble_eq_true rfl) ?_
  refine ⟨[], _, awake_ok _ (hG.rh _), ?_⟩
  rintro _ _ ⟨rfl, rfl⟩
  by_cases c1 : (200 : Int) < x.length
  · repeat (first | (refine ⟨fun h => ?_, fun h => ?_⟩; rotate_left 1; (focus (exfalso; (first | (with_reducible (cases h; done)) | (revert h; simp; done) | (revert h; simp; omega) | (revert h; simp [*]; done)))); clear h) | (refine ⟨fun h => ?_, fun h => ?_⟩; (focus (exfalso; (first | (with_reducible (cases h; done)) | (revert h; simp; done) | (revert h; simp; omega) | (revert h; simp [*]; done)))); clear h))
    refine ⟨[], _, awake_ok _ (hG.rh _), ?_⟩
    rintro _ _ ⟨rfl, rfl⟩
    exact ⟨_, Ent.refl _, rfl⟩
  by_cases c2 : size < 1
  · repeat (first | (refine ⟨fun h => ?_, fun h => ?_⟩; rotate_left 1; (focus (exfalso; (first | (with_reducible (cases h; done)) | (revert h; simp; done) | (revert h; simp; omega) | (revert h; simp [*]; done)))); clear h) | (refine ⟨fun h => ?_, fun h => ?_⟩; (focus (exfalso; (first | (with_reducible (cases h; done)) | (revert h; simp; done) | (revert h; simp; omega) | (revert h; simp [*]; done)))); clear h))
    refine ⟨[], _, awake_ok _ (hG.rh _), ?_⟩
    rintro _ _ ⟨rfl, rfl⟩
    exact ⟨_, Ent.refl _, rfl⟩
  obtain ⟨s, rfl⟩ := Int.eq_ofNat_of_zero_le (show 0 ≤ size by omega)
  repeat (first | (refine ⟨fun h => ?_, fun h => ?_⟩; rotate_left 1; (focus (exfalso; (first | (with_reducible (cases h; done)) | (revert h; simp; done) | (revert h; simp; omega) | (revert h; simp [*]; done)))); clear h) | (refine ⟨fun h => ?_, fun h => ?_⟩; (focus (exfalso; (first | (with_reducible (cases h; done)) | (revert h; simp; done) | (revert h; simp; omega) | (revert h; simp [*]; done)))); clear h))
  refine ⟨by decide, ?_⟩
  intro z hz
  obtain rfl := quo20 (by omega) hz
  clear hz
  by_cases c3 : (s : Int) ≤ ((x.length / 20 : Nat) : Int)
  · repeat (first | (refine ⟨fun h => ?_, fun h => ?_⟩; rotate_left 1; (focus (exfalso; (first | (with_reducible (cases h; done)) | (revert h; simp; done) | (revert h; simp; omega) | (revert h; simp [*]; done)))); clear h) | (refine ⟨fun h => ?_, fun h => ?_⟩; (focus (exfalso; (first | (with_reducible (cases h; done)) | (revert h; simp; done) | (revert h; simp; omega) | (revert h; simp [*]; done)))); clear h))
    refine ⟨[], _, awake_ok _ (hG.rh _), ?_⟩
    rintro _ _ ⟨rfl, rfl⟩
    exact ⟨_, Ent.refl _, rfl⟩
  by_cases c4 : (200 : Int) < other.length
  · repeat (first | (refine ⟨fun h => ?_, fun h => ?_⟩; rotate_left 1; (focus (exfalso; (first | (with_reducible (cases h; done)) | (revert h; simp; done) | (revert h; simp; omega) | (revert h; simp [*]; done)))); clear h) | (refine ⟨fun h => ?_, fun h => ?_⟩; (focus (exfalso; (first | (with_reducible (cases h; done)) | (revert h; simp; done) | (revert h; simp; omega) | (revert h; simp [*]; done)))); clear h))
    refine ⟨[], _, awake_ok _ (hG.rh _), ?_⟩
    rintro _ _ ⟨rfl, rfl⟩
    exact ⟨_, Ent.refl _, rfl⟩
  repeat (first | (refine ⟨fun h => ?_, fun h => ?_⟩; rotate_left 1; (focus (exfalso; (first | (with_reducible (cases h; done)) | (revert h; simp; done) | (revert h; simp; omega) | (revert h; simp [*]; done)))); clear h) | (refine ⟨fun h => ?_, fun h => ?_⟩; (focus (exfalso; (first | (with_reducible (cases h; done)) | (revert h; simp; done) | (revert h; simp; omega) | (revert h; simp [*]; done)))); clear h))
  refine ⟨[], _, Of_ok _ (hG.rh _) x A cap s hsz (by omega) hcap (hs.rh _), ?_⟩
  rintro _ _ ⟨rfl, rfl⟩
  have hof : ofV x s = (rootOf (blockLeaves s x), 0) := by rw [ofV, if_neg (by omega), Int.toNat_natCast]
  rw [hof]
  refine ⟨[], _, Show_okc _ (hG.rh _) x A cap s block hsz (by omega) hcap (hs.rh _), ?_⟩
  rintro _ _ hp1
  rcases hp1 with ⟨ng, rfl, rfl⟩ | ⟨gd, A1, kc1, bs, A2, kc2, p, rfl, hgp, hgb, hcp, hcb, rfl, hbs, hpp⟩
  · by_cases d1 : block < 0
    · repeat (first | (refine ⟨fun h => ?_, fun h => ?_⟩; rotate_left 1; (focus (exfalso; (first | (with_reducible (cases h; done)) | (revert h; simp; done) | (revert h; simp; omega) | (revert h; simp [*]; done)))); clear h) | (refine ⟨fun h => ?_, fun h => ?_⟩; (focus (exfalso; (first | (with_reducible (cases h; done)) | (revert h; simp; done) | (revert h; simp; omega) | (revert h; simp [*]; done)))); clear h))
      exact ⟨_, Ent.nil _, rfl⟩
    repeat (first | (refine ⟨fun h => ?_, fun h => ?_⟩; rotate_left 1; (focus (exfalso; (first | (with_reducible (cases h; done)) | (revert h; simp; done) | (revert h; simp; omega) | (revert h; simp [*]; done)))); clear h) | (refine ⟨fun h => ?_, fun h => ?_⟩; (focus (exfalso; (first | (with_reducible (cases h; done)) | (revert h; simp; done) | (revert h; simp; omega) | (revert h; simp [*]; done)))); clear h))
    (intro z hz; obtain rfl := wr_i64 hz (by omega) (by omega); clear hz)
    repeat (first | (refine ⟨fun h => ?_, fun h => ?_⟩; rotate_left 1; (focus (exfalso; (first | (with_reducible (cases h; done)) | (revert h; simp; done) | (revert h; simp; omega) | (revert h; simp [*]; done)))); clear h) | (refine ⟨fun h => ?_, fun h => ?_⟩; (focus (exfalso; (first | (with_reducible (cases h; done)) | (revert h; simp; done) | (revert h; simp; omega) | (revert h; simp [*]; done)))); clear h))
    refine ⟨by omega, ?_⟩
    intro z hz
    by_cases d2 : z < block
    · repeat (first | (refine ⟨fun h => ?_, fun h => ?_⟩; rotate_left 1; (focus (exfalso; (first | (with_reducible (cases h; done)) | (revert h; simp; done) | (revert h; simp; omega) | (revert h; simp [*]; done)))); clear h) | (refine ⟨fun h => ?_, fun h => ?_⟩; (focus (exfalso; (first | (with_reducible (cases h; done)) | (revert h; simp; done) | (revert h; simp; omega) | (revert h; simp [*]; done)))); clear h))
      exact ⟨_, Ent.nil _, rfl⟩
    have d3 : (x.length : Int) = 0 := by
      refine Classical.byContradiction fun d3 => d2 ?_
      obtain rfl := quo_nat (a := x.length - 1) (by omega) (by omega) hz
      obtain ⟨b, rfl⟩ := Int.eq_ofNat_of_zero_le (show 0 ≤ block by omega)
      have hL : (blockLeaves s x).length = (x.length - 1) / s + 1 := by rw [blockLeaves_length (by omega) x.length x rfl, countN, if_neg (by omega)]
      refine Classical.byContradiction fun d4 => ng ⟨by omega, by omega, ?_⟩
      rw [Int.toNat_natCast, hL]
      generalize (x.length - 1) / s = q at d4
      omega
    clear hz
    repeat (first | (refine ⟨fun h => ?_, fun h => ?_⟩; rotate_left 1; (focus (exfalso; (first | (with_reducible (cases h; done)) | (revert h; simp; done) | (revert h; simp; omega) | (revert h; simp [*]; done)))); clear h) | (refine ⟨fun h => ?_, fun h => ?_⟩; (focus (exfalso; (first | (with_reducible (cases h; done)) | (revert h; simp; done) | (revert h; simp; omega) | (revert h; simp [*]; done)))); clear h))
    refine ⟨_, Ent.nil _, ?_⟩
    show Value.bool (decide ((x.length : Int) = 0)) = _
    rw [decide_eq_true d3]
  obtain ⟨b, rfl⟩ := Int.eq_ofNat_of_zero_le (show 0 ≤ block from gd.2.1)
  obtain ⟨g1, g2, g3, g4, g5⟩ := good_le gd
  obtain ⟨hsee, hup⟩ := see_good gd
  rw [Int.toNat_natCast, Int.toNat_natCast] at hbs hpp
  rw [← hbs, ← hpp] at hsee hup
  have hbl : bs.length ≤ 300 := by rw [hbs, blockOf_length]; omega
  have hLl := blockLeaves_le s _ x rfl
  have hpl : p.length ≤ 300 := by rw [hpp, pathOf, List.length_reverse]; have := pathR_le _ (blockLeaves s x) b rfl; omega
  have hpsm : Small p := ⟨by omega, fun t ht => by
    have := sumsB_iff.1 (pathR_sums _ (blockLeaves s x) b rfl (blockLeaves_sums s _ x rfl)) t (by rw [hpp, pathOf] at ht; simpa using ht)
    omega⟩
  clear hbs hpp
  generalize rootOf (blockLeaves s x) = root at hsee hup
  repeat (first | (refine ⟨fun h => ?_, fun h => ?_⟩; rotate_left 1; (focus (exfalso; (first | (with_reducible (cases h; done)) | (revert h; simp; done) | (revert h; simp; omega) | (revert h; simp [*]; done)))); clear h) | (refine ⟨fun h => ?_, fun h => ?_⟩; (focus (exfalso; (first | (with_reducible (cases h; done)) | (revert h; simp; done) | (revert h; simp; omega) | (revert h; simp [*]; done)))); clear h))
  refine ⟨[], _, See_ok _ (hG.rh _) root x.length s b bs A1 kc1 p _ (by omega) hsz (by omega) (by omega) hcb (BsR.own 1 rfl rfl rfl hgb) hpsm (Ss.own 0 rfl rfl hgp hcp), ?_⟩
  rintro _ _ ⟨rfl, rfl⟩
  rw [hsee]
  repeat (first | (refine ⟨fun h => ?_, fun h => ?_⟩; rotate_left 1; (focus (exfalso; (first | (with_reducible (cases h; done)) | (revert h; simp; done) | (revert h; simp; omega) | (revert h; simp [*]; done)))); clear h) | (refine ⟨fun h => ?_, fun h => ?_⟩; (focus (exfalso; (first | (with_reducible (cases h; done)) | (revert h; simp; done) | (revert h; simp; omega) | (revert h; simp [*]; done)))); clear h))
  refine ⟨other, rfl, fun j u hj => (hso.rh _).at_ hj, ?_⟩
  refine ⟨bs, rfl, fun j u hj => (BsR.own (bs := bs) 1 rfl rfl rfl hgb).at_ hj, ?_⟩
  by_cases e1 : other = bs
  · repeat (first | (refine ⟨fun h => ?_, fun h => ?_⟩; rotate_left 1; (focus (exfalso; (first | (with_reducible (cases h; done)) | (revert h; simp; done) | (revert h; simp; omega) | (revert h; simp [*]; done)))); clear h) | (refine ⟨fun h => ?_, fun h => ?_⟩; (focus (exfalso; (first | (with_reducible (cases h; done)) | (revert h; simp; done) | (revert h; simp; omega) | (revert h; simp [*]; done)))); clear h))
    exact ⟨_, Ent.nil _, rfl⟩
  repeat (first | (refine ⟨fun h => ?_, fun h => ?_⟩; rotate_left 1; (focus (exfalso; (first | (with_reducible (cases h; done)) | (revert h; simp; done) | (revert h; simp; omega) | (revert h; simp [*]; done)))); clear h) | (refine ⟨fun h => ?_, fun h => ?_⟩; (focus (exfalso; (first | (with_reducible (cases h; done)) | (revert h; simp; done) | (revert h; simp; omega) | (revert h; simp [*]; done)))); clear h))
  refine ⟨[], _, See_ok _ (hG.rh _) root x.length s b other C cap3 p _ (by omega) hsz (by omega) (by omega) hcap3 (hso.rh _) hpsm (Ss.own 0 rfl rfl hgp hcp), ?_⟩
  rintro _ _ ⟨rfl, rfl⟩
  cases e2 : seeB root x.length s b other p
  · repeat (first | (refine ⟨fun h => ?_, fun h => ?_⟩; rotate_left 1; (focus (exfalso; (first | (with_reducible (cases h; done)) | (revert h; simp; done) | (revert h; simp; omega) | (revert h; simp [*]; done)))); clear h) | (refine ⟨fun h => ?_, fun h => ?_⟩; (focus (exfalso; (first | (with_reducible (cases h; done)) | (revert h; simp; done) | (revert h; simp; omega) | (revert h; simp [*]; done)))); clear h))
    exact ⟨_, Ent.nil _, rfl⟩
  have hup2 := see_up g2 g1 g5 e2
  repeat (first | (refine ⟨fun h => ?_, fun h => ?_⟩; rotate_left 1; (focus (exfalso; (first | (with_reducible (cases h; done)) | (revert h; simp; done) | (revert h; simp; omega) | (revert h; simp [*]; done)))); clear h) | (refine ⟨fun h => ?_, fun h => ?_⟩; (focus (exfalso; (first | (with_reducible (cases h; done)) | (revert h; simp; done) | (revert h; simp; omega) | (revert h; simp [*]; done)))); clear h))
  refine ⟨[], _, Leaf_ok _ (hG.rh _) other C cap3 (by omega) hcap3 (hso.rh _), ?_⟩
  rintro _ _ ⟨rfl, rfl⟩
  refine ⟨[], _, Leaf_ok _ (hG.rh _) bs A1 kc1 (by omega) hcb (BsR.own 1 rfl rfl rfl hgb), ?_⟩
  rintro _ _ ⟨rfl, rfl⟩
  by_cases e3 : leafOf other = leafOf bs
  · have hcol := leaf_coll e1 e3
    repeat (first | (refine ⟨fun h => ?_, fun h => ?_⟩; rotate_left 1; (focus (exfalso; (first | (with_reducible (cases h; done)) | (revert h; simp; done) | (revert h; simp; omega) | (revert h; simp [*]; done)))); clear h) | (refine ⟨fun h => ?_, fun h => ?_⟩; (focus (exfalso; (first | (with_reducible (cases h; done)) | (revert h; simp; done) | (revert h; simp; omega) | (revert h; simp [*]; done)))); clear h))
    refine ⟨other, rfl, fun j u hj => (hso.rh _).at_ hj, ?_⟩
    refine ⟨add0_le (a := other) (by omega), ?_⟩
    refine ⟨bs, rfl, fun j u hj => (BsR.own (bs := bs) 1 rfl rfl rfl hgb).at_ hj, ?_⟩
    refine ⟨add0_le (a := bs) (by omega), ?_⟩
    refine ⟨[], _, collides_ok _ (0 :: other) (0 :: bs) (by rw [List.length_cons]; omega) (by rw [List.length_cons]; omega), ?_⟩
    rintro _ _ ⟨rfl, rfl⟩
    rw [hcol]
    exact ⟨_, Ent.nil _, rfl⟩
  have hmet := meets p.reverse (leafOf other) (leafOf bs) root b ((x.length - 1) / s + 1) e3 hup2 hup
  have hq : (x.length - 1) / s ≤ x.length - 1 := Nat.div_le_self _ _
  repeat (first | (refine ⟨fun h => ?_, fun h => ?_⟩; rotate_left 1; (focus (exfalso; (first | (with_reducible (cases h; done)) | (revert h; simp; done) | (revert h; simp; omega) | (revert h; simp [*]; done)))); clear h) | (refine ⟨fun h => ?_, fun h => ?_⟩; (focus (exfalso; (first | (with_reducible (cases h; done)) | (revert h; simp; done) | (revert h; simp; omega) | (revert h; simp [*]; done)))); clear h))
  refine ⟨[0,0], (.q 0 (.q 2 (.q 4 (.q 5 (.q 6 (.q 7 (.q 8 (.q 9 (.q 10 (.q 11 (.one 1 (.one 3 (.one 12 (.q 13 (.q 14 (.q 15 (.q 16 (.q 17 (.q 18 (.q 19 .nil)))))))))))))))))))), by kernel_rfl, ?_⟩
  (intro z hz; obtain rfl : z = ((x.length - 1 : Nat) : Int) := (by first | (rw [IntKind.wrap_i64] at hz; omega) | (rw [IntKind.wrap_u64] at hz; omega) | omega); clear hz)
  refine ⟨by omega, ?_⟩
  intro z hz
  obtain rfl := quo_nat rfl (by omega) hz
  clear hz
  generalize (x.length - 1) / s = q at hq g5 hmet hup hup2 ⊢
  (intro z hz; obtain rfl : z = ((q + 1 : Nat) : Int) := (by first | (rw [IntKind.wrap_i64] at hz; omega) | (rw [IntKind.wrap_u64] at hz; omega) | omega); clear hz)
  refine ⟨[], _, Leaf_ok _ ((hG.rh _).rh _) other C cap3 (by omega) hcap3 ((hso.rh _).rh _), ?_⟩
  rintro _ _ ⟨rfl, rfl⟩
  refine ⟨[], _, Leaf_ok _ ((hG.rh _).rh _) bs A1 kc1 (by omega) hcb ((BsR.own 1 rfl rfl rfl hgb).rh _), ?_⟩
  rintro _ _ ⟨rfl, rfl⟩
  refine ⟨[], _, meets_ok (leafOf other) (leafOf bs) (by rw [leafOf_length]; omega) (by rw [leafOf_length]; omega) p.reverse _ b (q + 1) _ (by omega) (by omega) (by rw [List.reverse_reverse]; exact hpsm) (by rw [List.reverse_reverse]; exact (Ss.own 0 rfl rfl hgp hcp).rh _), ?_⟩
  rintro _ _ ⟨rfl, rfl⟩
  rw [hmet]
  exact ⟨_, Ent.nil _, rfl⟩

end Go.Proofs.YtgbdfpfiolbhlaaDoor
