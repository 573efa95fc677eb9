/-
  Top: contracts of a15Stream, chacha20.Xor, seal.Body, seal.SealWith and seal.Explain.
-/
import Derived.Test.YtgnmbgbiajgpeaaDoorTom
namespace Go.Proofs.YtgnmbgbiajgpeaaDoor
open Go Go.RowKit
set_option linter.unusedVariables false
set_option linter.unusedSimpArgs false

def strmF (seed : Str) (i k : Nat) : UInt8 := if 0 < seed.length then seed.getD ((i * 31 + k) % seed.length) 0 else 0
def strmL (seed : Str) (i n : Nat) : Str := (List.range n).map (strmF seed i)
theorem strmL_length (seed : Str) (i n : Nat) : (strmL seed i n).length = n := by simp [strmL]
theorem tabM_skip {f g : Nat → UInt8} {n k : Nat} (h : f k = g k) : tabM f g n (k + 1) = tabM f g n k := by
  unfold tabM
  refine List.map_congr_left fun i _ => ?_
  by_cases c : i < k
  · rw [if_pos c, if_pos (by omega)]
  · by_cases e : i = k
    · rw [e, if_pos (by omega), if_neg (by omega)]; exact h
    · rw [if_neg c, if_neg (by omega)]
set_option maxRecDepth 100000 in
set_option maxHeartbeats 2000000 in
theorem Stream15_ok (R : Rd) (seed : Str) (i n : Nat) (v0 : Value) (hi : i ≤ 1000) (hn : n ≤ 100000) (hl : seed.length ≤ 100000) (hs : BsX false R v0 seed) :
    Fn Tryd.prog 16 [v0, .int .i64 i, .int .i64 n] [] R
    (fun v h => ∃ g, v = .slice (some ⟨g, 0, .none⟩) n n ∧ h = [.row (some ⟨g, 0, .none⟩) n n 5 1 (BV (strmL seed i n)) (0, 0)]) := by
  have hML := maxLen_eq
  obtain ⟨A, cap, rfl, _, hs⟩ := hs
  refine fn_of_vc mixed tabOk Tryd.func16 rfl (by kernel_rfl) (Nat.le_of_ble_eq_true rfl) ?_
  refine ⟨by omega, by omega, by show (1 : Int) * _ ≤ _; omega, by omega, fun g => ?_⟩
  refine ⟨[none, none, none, none, none, none, none, none, some 8, none, none, none, none, some 13, some 14, some 15, some 16, some 17, some 18, some 19, some 20, some 21, some 22, some 23, some 24, some 25, some 26, some 27, some 28, some 29, some 30, some 31, some 32], [13], Nat, fun k => k ≤ n, fun k => [.int .i64 k], fun k => [.row (some ⟨g, 0, .none⟩) n n 5 1 (BV (tabM (strmF seed i) (fun _ => 0) n k)) (0, 0)], fun k => n - k, 0, Nat.zero_le _, ⟨rfl, trivial⟩, ?_, ?_⟩
  · show Ent [.row (some ⟨g, 0, .none⟩) n n 5 1 (repl [.int .u8 0] n) (0, 0)] [.row (some ⟨g, 0, .none⟩) n n 5 1 (BV (tabM _ (fun _ => 0) n 0)) (0, 0)]
    rw [tabM_zero, repl1]
    exact Ent.refl _
  intro k hk js
  have hk : k ≤ n := hk
  by_cases d : k < n
  · repeat (first | (refine ⟨fun h => ?_, fun h => ?_⟩; rotate_left 1; (focus (exfalso; (first | (with_reducible (cases h; done)) | (revert h; simp; done) | (revert h; simp; omega) | (revert h; simp [*]; done)))); clear h) | (refine ⟨fun h => ?_, fun h => ?_⟩; (focus (exfalso; (first | (with_reducible (cases h; done)) | (revert h; simp; done) | (revert h; simp; omega) | (revert h; simp [*]; done)))); clear h))
    refine ⟨fun hb => ?_, fun hb => ?_⟩
    · replace hb := of_decide_eq_true hb
      have he : strmF seed i k = seed.getD ((i * 31 + k) % seed.length) 0 := if_pos (by omega)
      (intro z hz; obtain rfl : z = ((i * 31 : Nat) : Int) := (by first | (rw [IntKind.wrap_i64] at hz; omega) | (rw [IntKind.wrap_u64] at hz; omega) | omega); clear hz)
      (intro z hz; obtain rfl : z = ((i * 31 + k : Nat) : Int) := (by first | (rw [IntKind.wrap_i64] at hz; omega) | (rw [IntKind.wrap_u64] at hz; omega) | omega); clear hz)
      refine ⟨by omega, ?_⟩
      intro z hz
      obtain rfl := rem_nat (a := i * 31 + k) (b := seed.length) rfl hz
      clear hz
      have hlt : (i * 31 + k) % seed.length < seed.length := Nat.mod_lt _ (by omega)
      generalize (i * 31 + k) % seed.length = m at hlt he ⊢
      obtain ⟨a, rfl, hra⟩ := hs.one hlt
      refine ⟨by omega, by omega, a, rfl, ?_⟩
      refine ⟨_, .inl hra, ?_⟩
      refine ⟨by omega, by omega, _, rfl, ?_⟩
      refine ⟨rfl, rfl, 0, nthK_mk rfl (strow (by rw [BV_length, tabM_length]; omega) ?_)⟩
      (intro z hz; obtain rfl : z = ((k + 1 : Nat) : Int) := (by first | (rw [IntKind.wrap_i64] at hz; omega) | (rw [IntKind.wrap_u64] at hz; omega) | omega); clear hz)
      refine ⟨rfl, k + 1, d, by show n - (k + 1) < n - k; omega, ⟨rfl, trivial⟩, ?_, rfl⟩
      show Ent _ [.row (some ⟨g, 0, .none⟩) n n 5 1 (BV (tabM _ (fun _ => 0) n (k + 1))) (0, 0)]
      rw [← tabM_setV, he]
      exact Ent.refl _
    · replace hb := of_decide_eq_false hb
      have he : strmF seed i k = 0 := if_neg (by omega)
      (intro z hz; obtain rfl : z = ((k + 1 : Nat) : Int) := (by first | (rw [IntKind.wrap_i64] at hz; omega) | (rw [IntKind.wrap_u64] at hz; omega) | omega); clear hz)
      refine ⟨rfl, k + 1, d, by show n - (k + 1) < n - k; omega, ⟨rfl, trivial⟩, ?_, rfl⟩
      show Ent _ [.row (some ⟨g, 0, .none⟩) n n 5 1 (BV (tabM _ (fun _ => 0) n (k + 1))) (0, 0)]
      rw [tabM_skip he]
      exact Ent.refl _
  · repeat (first | (refine ⟨fun h => ?_, fun h => ?_⟩; rotate_left 1; (focus (exfalso; (first | (with_reducible (cases h; done)) | (revert h; simp; done) | (revert h; simp; omega) | (revert h; simp [*]; done)))); clear h) | (refine ⟨fun h => ?_, fun h => ?_⟩; (focus (exfalso; (first | (with_reducible (cases h; done)) | (revert h; simp; done) | (revert h; simp; omega) | (revert h; simp [*]; done)))); clear h))
    obtain rfl : k = n := by omega
    refine ⟨_, Ent.refl _, g, rfl, ?_⟩
    show [HA.row _ _ _ _ _ (BV (tabM _ _ _ _)) _] = _
    rw [tabM_full]; rfl

def xorL (a b : Str) : Str := (List.range a.length).map fun i => a.getD i 0 ^^^ b.getD i 0
theorem xorL_length (a b : Str) : (xorL a b).length = a.length := by simp [xorL]
theorem xorL_get {a b : Str} {i : Nat} (h : i < a.length) : (xorL a b).getD i 0 = a.getD i 0 ^^^ b.getD i 0 := by
  rw [List.getD_eq_getElem?_getD (l := xorL a b)]
  unfold xorL
  rw [List.getElem?_map, List.getElem?_range h]; rfl
theorem list_getD {a b : Str} (hl : a.length = b.length) (h : ∀ i, i < a.length → a.getD i 0 = b.getD i 0) : a = b := by
  refine List.ext_getElem hl fun i h1 h2 => ?_
  have := h i h1
  rw [List.getD_eq_getElem?_getD, List.getD_eq_getElem?_getD, List.getElem?_eq_getElem h1, List.getElem?_eq_getElem h2] at this
  exact this
/-- The stream that explains a block gives the block. -/
theorem xorL_back {a b : Str} (h : a.length = b.length) : xorL a (xorL a b) = b := by
  refine list_getD (by rw [xorL_length]; exact h) fun i hi => ?_
  rw [xorL_length] at hi
  rw [xorL_get hi, xorL_get hi, ← UInt8.xor_assoc, UInt8.xor_self, UInt8.zero_xor]
set_option maxRecDepth 100000 in
set_option maxHeartbeats 2000000 in
theorem Xor_ok (R : Rd) (a b : Str) (v0 v1 : Value) (hl : a.length ≤ 100000) (he : a.length = b.length) (h0 : BsX false R v0 a) (h1 : BsX false R v1 b) :
    Fn Tryd.prog 41 [v0, v1] [] R
    (fun v h => ∃ g, v = .tuple ⟨[.slice (some ⟨g, 0, .none⟩) a.length a.length, .int .i64 0]⟩ ∧ h = [.row (some ⟨g, 0, .none⟩) a.length a.length 5 1 (BV (xorL a b)) (0, 0)]) := by
  have hML := maxLen_eq
  obtain ⟨A, cap, rfl, _, hs⟩ := h0
  obtain ⟨B, bc, rfl, _, hs1⟩ := h1
  refine fn_of_vc mixed tabOk Tryd.func41 rfl (by kernel_rfl) (Nat.le_of_ble_eq_true rfl) ?_
  repeat (first | (refine ⟨fun h => ?_, fun h => ?_⟩; rotate_left 1; (focus (exfalso; (first | (with_reducible (cases h; done)) | (revert h; simp; done) | (revert h; simp; omega) | (revert h; simp [*]; done)))); clear h) | (refine ⟨fun h => ?_, fun h => ?_⟩; (focus (exfalso; (first | (with_reducible (cases h; done)) | (revert h; simp; done) | (revert h; simp; omega) | (revert h; simp [*]; done)))); clear h))
  refine ⟨by omega, by omega, by show (1 : Int) * _ ≤ _; omega, by omega, fun g => ?_⟩
  refine ⟨[none, none, none, none, none, none, none, some 7, none, none, none, none, none, none, none, none, none, none, some 18, some 19, some 20, some 21, some 22, some 23, some 24, some 25, some 26, some 27, some 28, some 29, some 30, some 31, some 32, some 33], [18], Nat, fun k => k ≤ a.length, fun k => [.int .i64 k], fun k => [.row (some ⟨g, 0, .none⟩) a.length a.length 5 1 (BV (tabM (fun i => a.getD i 0 ^^^ b.getD i 0) (fun _ => 0) a.length k)) (0, 0)], fun k => a.length - k, 0, Nat.zero_le _, ⟨rfl, trivial⟩, ?_, ?_⟩
  · show Ent [.row (some ⟨g, 0, .none⟩) a.length a.length 5 1 (repl [.int .u8 0] a.length) (0, 0)] [.row (some ⟨g, 0, .none⟩) a.length a.length 5 1 (BV (tabM _ (fun _ => 0) a.length 0)) (0, 0)]
    rw [tabM_zero, repl1]
    exact Ent.refl _
  intro k hk js
  have hk : k ≤ a.length := hk
  by_cases d : k < a.length
  · repeat (first | (refine ⟨fun h => ?_, fun h => ?_⟩; rotate_left 1; (focus (exfalso; (first | (with_reducible (cases h; done)) | (revert h; simp; done) | (revert h; simp; omega) | (revert h; simp [*]; done)))); clear h) | (refine ⟨fun h => ?_, fun h => ?_⟩; (focus (exfalso; (first | (with_reducible (cases h; done)) | (revert h; simp; done) | (revert h; simp; omega) | (revert h; simp [*]; done)))); clear h))
    obtain ⟨p, rfl, hra⟩ := hs.one d
    obtain ⟨q, rfl, hrb⟩ := hs1.one (i := k) (by omega)
    refine ⟨[], (.q 0 (.q 1 (.q 2 (.q 3 (.q 4 (.q 5 (.q 6 (.q 7 (.q 8 (.q 9 (.q 10 (.q 11 (.fin 12))))))))))))), by kernel_rfl, ?_⟩
    refine ⟨by omega, by omega, p, rfl, ?_⟩
    refine ⟨_, .inl hra, ?_⟩
    refine ⟨by omega, by omega, q, rfl, ?_⟩
    refine ⟨_, .inl hrb, ?_⟩
    intro z hz
    obtain rfl := bxor hz
    clear hz
    refine ⟨by omega, by omega, _, rfl, ?_⟩
    refine ⟨rfl, rfl, 0, nthK_mk rfl (strow (by rw [BV_length, tabM_length]; omega) ?_)⟩
    (intro z hz; obtain rfl : z = ((k + 1 : Nat) : Int) := (by first | (rw [IntKind.wrap_i64] at hz; omega) | (rw [IntKind.wrap_u64] at hz; omega) | omega); clear hz)
    refine ⟨rfl, k + 1, d, by show a.length - (k + 1) < a.length - k; omega, ⟨rfl, trivial⟩, ?_, rfl⟩
    show Ent _ [.row (some ⟨g, 0, .none⟩) a.length a.length 5 1 (BV (tabM (fun i => a.getD i 0 ^^^ b.getD i 0) (fun _ => 0) a.length (k + 1))) (0, 0)]
    rw [← tabM_setV]
    exact Ent.refl _
  · repeat (first | (refine ⟨fun h => ?_, fun h => ?_⟩; rotate_left 1; (focus (exfalso; (first | (with_reducible (cases h; done)) | (revert h; simp; done) | (revert h; simp; omega) | (revert h; simp [*]; done)))); clear h) | (refine ⟨fun h => ?_, fun h => ?_⟩; (focus (exfalso; (first | (with_reducible (cases h; done)) | (revert h; simp; done) | (revert h; simp; omega) | (revert h; simp [*]; done)))); clear h))
    obtain rfl : k = a.length := by omega
    refine ⟨_, Ent.refl _, g, rfl, ?_⟩
    show [HA.row _ _ _ _ _ (BV (tabM _ _ _ _)) _] = _
    rw [tabM_full]; rfl

/-! ### a body -/
/-- Bytes laid over a list. -/
def lay (l : Str) (o : Nat) (x : Str) : Str := l.take o ++ (x ++ l.drop (o + x.length))
theorem lay_length {l x : Str} {o : Nat} (h : o + x.length ≤ l.length) : (lay l o x).length = l.length := by
  unfold lay
  rw [List.length_append, List.length_append, List.length_take, List.length_drop]; omega
theorem setRange_lay {l x : Str} {o : Nat} (h : o + x.length ≤ l.length) : setRange (BV l) o (BV x) = BV (lay l o x) := by
  have e : BV l = BV (l.take o) ++ BV (l.drop o) := by rw [← BV_append, List.take_append_drop]
  have hl : (BV (l.take o)).length = o := by rw [BV_length, List.length_take]; omega
  have := setRange_mid (BV x) (BV (l.take o)) (BV (l.drop o)) (by rw [BV_length, BV_length, List.length_drop]; omega)
  rw [hl, ← e] at this
  rw [this]
  unfold lay
  rw [BV_append, BV_append, BV_length]
  congr 2
  unfold BV
  rw [← List.map_drop, List.drop_drop]
def bodyL (content check : Str) : Str := lay (lay (lay (zerB (clsF content.length)) 0 (num content.length)) (num content.length).length content) (clsF content.length - 16) check
theorem bodyL_length {content check : Str} (h : content.length ≤ 32768) (hc : check.length = 16) : (bodyL content check).length = clsF content.length := by
  have hs := clsF_spec h
  have hn := length_num content.length
  have h0 : (zerB (clsF content.length)).length = clsF content.length := by simp [zerB]
  have h1 : (lay (zerB (clsF content.length)) 0 (num content.length)).length = clsF content.length := by rw [lay_length (by omega), h0]
  have h2 : (lay (lay (zerB (clsF content.length)) 0 (num content.length)) (num content.length).length content).length = clsF content.length := by rw [lay_length (by omega), h1]
  unfold bodyL
  rw [lay_length (by omega), h2]
theorem stlay {g n c : Nat} {e : TypeId} {fz : Nat × Nat} {l x : Str} {xs : List Value} {o : Nat} {K : HA → Prop} (hx : xs = BV x) (h1 : o + x.length ≤ l.length) (hK : K (.row (some ⟨g, 0, .none⟩) n c e 1 (BV (lay l o x)) fz)) :
    stE (.row (some ⟨g, 0, .none⟩) n c e 1 (BV l) fz) ⟨g, o, .none⟩ xs K := by
  subst hx
  refine ⟨rfl, rfl, by rw [BV_length, BV_length]; exact h1, ?_⟩
  show K (.row (some ⟨g, 0, .none⟩) n c e 1 (setRange (BV l) o (BV x)) fz)
  rw [setRange_lay h1]
  exact hK
theorem base_of {g c k : Nat} (h : k < c) : sliceBase (some ⟨g, 0, .none⟩) c k 1 = some ⟨g, k, .none⟩ := by
  unfold sliceBase
  rw [if_neg (by omega), Option.map_some, Nat.mul_one, add_zero_addr]
theorem takeB {x : Str} {c : Nat} (h : c = x.length) : (BV x).take (c * 1) = BV x := by
  rw [List.take_of_length_le]; rw [BV_length]; omega
set_option maxRecDepth 100000 in
set_option maxHeartbeats 2000000 in
theorem Body_ok (R : Rd) (content check : Str) (v0 v1 : Value) (hl : content.length ≤ 32768) (hc : check.length = 16) (h0 : BsX false R v0 content) (h1 : BsX false R v1 check) :
    Fn Tryd.prog 40 [v0, v1] [] R
    (fun v h => ∃ g, v = .tuple ⟨[.slice (some ⟨g, 0, .none⟩) (bodyL content check).length (bodyL content check).length, .int .i64 0]⟩ ∧ h = [.row (some ⟨g, 0, .none⟩) (bodyL content check).length (bodyL content check).length 5 1 (BV (bodyL content check)) (0, 0)]) := by
  have hML := maxLen_eq
  obtain ⟨A, cap, rfl, _, hs⟩ := h0
  obtain ⟨B, bc, rfl, _, hs1⟩ := h1
  rw [bodyL_length hl hc]
  unfold bodyL
  have hsp := clsF_spec hl
  have hnl := length_num content.length
  have hn1 : 1 ≤ (num content.length).length := by rw [hnl]; exact usize_pos _
  have hcv : clsV (content.length : Int) = (clsF content.length, 0) := by rw [clsV_in (by omega) (by omega), Int.toNat_natCast]
  refine fn_of_vc mixed tabOk Tryd.func40 rfl (by kernel_rfl) (Nat.le_of_ble_eq_true rfl) ?_
  repeat (first | (refine ⟨fun h => ?_, fun h => ?_⟩; rotate_left 1; (focus (exfalso; (first | (with_reducible (cases h; done)) | (revert h; simp; done) | (revert h; simp; omega) | (revert h; simp [*]; done)))); clear h) | (refine ⟨fun h => ?_, fun h => ?_⟩; (focus (exfalso; (first | (with_reducible (cases h; done)) | (revert h; simp; done) | (revert h; simp; omega) | (revert h; simp [*]; done)))); clear h))
  refine ⟨[], _, Class_ok _ content.length (by omega), ?_⟩
  rw [hcv]
  generalize clsF content.length = cl at hsp ⊢
  rintro _ _ ⟨rfl, rfl⟩
  repeat (first | (refine ⟨fun h => ?_, fun h => ?_⟩; rotate_left 1; (focus (exfalso; (first | (with_reducible (cases h; done)) | (revert h; simp; done) | (revert h; simp; omega) | (revert h; simp [*]; done)))); clear h) | (refine ⟨fun h => ?_, fun h => ?_⟩; (focus (exfalso; (first | (with_reducible (cases h; done)) | (revert h; simp; done) | (revert h; simp; omega) | (revert h; simp [*]; done)))); clear h))
  refine ⟨by omega, by omega, by show (1 : Int) * _ ≤ _; omega, by omega, fun g => ?_⟩
  (intro z hz; obtain rfl : z = ((content.length : Nat) : Int) := (by first | (rw [IntKind.wrap_i64] at hz; omega) | (rw [IntKind.wrap_u64] at hz; omega) | omega); clear hz)
  refine ⟨[], _, AppendUint_ok _ _ [] content.length (by omega) (by decide) (BsR.nilv _), ?_⟩
  rintro _ _ ⟨A2, k2, cap2, xs, rfl, rfl, hk2, hxs, hg2⟩
  generalize num content.length = nm at hnl hn1 hk2 hxs ⊢
  subst hxs
  rw [List.nil_append] at hk2 ⊢
  have hz0 : (zerB cl).length = cl := by simp [zerB]
  have hz1 : (lay (zerB cl) 0 nm).length = cl := by rw [lay_length (by omega), hz0]
  have hz2 : (lay (lay (zerB cl) 0 nm) nm.length content).length = cl := by rw [lay_length (by omega), hz1]
  have hz : (repl [.int .u8 0] cl) = BV (zerB cl) := by rw [repl1]; simp [BV, zerB]
  refine ⟨BV nm, by rw [BV_length, hk2]; show _ = _ * 1; omega, ?_, BV_one _, fun c hcc => .inr ⟨⟨g, 0, .none⟩, rfl, 0, nthK_mk rfl ?_⟩⟩
  · exact srcS (SlR.own 1 rfl (by rw [BV_length, hk2]; omega) hg2)
  obtain rfl : c = nm.length := by omega
  show stE (.row (some ⟨g, 0, .none⟩) cl cl 5 1 (repl [.int .u8 0] cl) (0, 0)) _ _ _
  rw [hz]
  refine stlay (takeB rfl) (by omega) ?_
  refine ⟨nm.length, cl, rfl, rfl, by omega, by omega, ?_⟩
  refine ⟨BV content, by rw [BV_length]; show _ = _ * 1; omega, (hs.rh _).src, BV_one _, fun c hcc => .inr ⟨⟨g, nm.length, .none⟩, base_of (by omega), 0, nthK_mk rfl ?_⟩⟩
  obtain rfl : c = content.length := by omega
  refine stlay (takeB rfl) (by omega) ?_
  (intro z hz; obtain rfl : z = ((cl - 16 : Nat) : Int) := (by first | (rw [IntKind.wrap_i64] at hz; omega) | (rw [IntKind.wrap_u64] at hz; omega) | omega); clear hz)
  refine ⟨cl - 16, cl, rfl, rfl, by omega, by omega, ?_⟩
  refine ⟨BV check, by rw [BV_length]; show _ = _ * 1; omega, (hs1.rh _).src, BV_one _, fun c hcc => .inr ⟨⟨g, cl - 16, .none⟩, base_of (by omega), 0, nthK_mk rfl ?_⟩⟩
  obtain rfl : c = check.length := by omega
  refine stlay (takeB rfl) (by omega) ?_
  exact ⟨_, Ent.drop [_] [_], g, rfl, rfl⟩

/-! ### a sealed block -/
def sealL (stream check content : Str) : Str := xorL (bodyL content check) stream
set_option maxRecDepth 100000 in
theorem SealWith_ok (R : Rd) (stream check content : Str) (v0 v1 v2 : Value) (hl : content.length ≤ 32768) (hc : check.length = 16) (hst : stream.length = clsF content.length) (h0 : BsX false R v0 stream) (h1 : BsX false R v1 check) (h2 : BsX false R v2 content) :
    Fn Tryd.prog 15 [v0, v1, v2] [] R
    (fun v h => ∃ g, v = .tuple ⟨[.slice (some ⟨g, 0, .none⟩) (sealL stream check content).length (sealL stream check content).length, .int .i64 0]⟩ ∧ h = [.row (some ⟨g, 0, .none⟩) (sealL stream check content).length (sealL stream check content).length 5 1 (BV (sealL stream check content)) (0, 0)]) := by
  have hb := bodyL_length hl hc
  have hsp := clsF_spec hl
  unfold sealL
  rw [xorL_length]
  refine fn_of_vc mixed tabOk Tryd.func15 rfl (by kernel_rfl) (Nat.le_of_ble_eq_true rfl) ?_
  refine ⟨[], _, Body_ok _ content check v2 v1 hl hc (h2.rh _) (h1.rh _), ?_⟩
  generalize bodyL content check = bd at hb ⊢
  rintro _ _ ⟨g, rfl, rfl⟩
  repeat (first | (refine ⟨fun h => ?_, fun h => ?_⟩; rotate_left 1; (focus (exfalso; (first | (with_reducible (cases h; done)) | (revert h; simp; done) | (revert h; simp; omega) | (revert h; simp [*]; done)))); clear h) | (refine ⟨fun h => ?_, fun h => ?_⟩; (focus (exfalso; (first | (with_reducible (cases h; done)) | (revert h; simp; done) | (revert h; simp; omega) | (revert h; simp [*]; done)))); clear h))
  refine ⟨[], _, Xor_ok _ bd stream _ v0 (by omega) (by omega) ⟨_, _, rfl, (fun h => by cases h), BsR.own 0 rfl rfl rfl (.inr ⟨g, rfl⟩)⟩ (h0.rh _), ?_⟩
  rintro _ _ ⟨g2, rfl, rfl⟩
  exact ⟨_, Ent.pick [1] rfl, g2, rfl, rfl⟩
set_option maxRecDepth 100000 in
theorem Explain_ok (R : Rd) (stream check content : Str) (v0 v1 v2 : Value) (hl : content.length ≤ 32768) (hc : check.length = 16) (hst : stream.length = clsF content.length) (h0 : BsX false R v0 stream) (h1 : BsX false R v1 check) (h2 : BsX false R v2 content) :
    Fn Tryd.prog 17 [v0, v1, v2] [] R
    (fun v h => ∃ g, v = .tuple ⟨[.slice (some ⟨g, 0, .none⟩) (sealL stream check content).length (sealL stream check content).length, .int .i64 0]⟩ ∧ h = [.row (some ⟨g, 0, .none⟩) (sealL stream check content).length (sealL stream check content).length 5 1 (BV (sealL stream check content)) (0, 0)]) := by
  refine fn_of_vc mixed tabOk Tryd.func17 rfl (by kernel_rfl) (Nat.le_of_ble_eq_true rfl) ?_
  refine ⟨[], _, SealWith_ok _ stream check content v0 v1 v2 hl hc hst (h0.rh _) (h1.rh _) (h2.rh _), ?_⟩
  rintro _ _ ⟨g, rfl, rfl⟩
  exact ⟨_, Ent.refl _, g, rfl, rfl⟩
theorem sealL_length {stream check content : Str} (hl : content.length ≤ 32768) (hc : check.length = 16) : (sealL stream check content).length = clsF content.length := by
  unfold sealL
  rw [xorL_length, bodyL_length hl hc]
/-- Sealed with the stream that explains it, another content gives the same block. -/
theorem seal_back {b check content : Str} (hl : content.length ≤ 32768) (hc : check.length = 16) (hb : b.length = clsF content.length) : sealL (sealL b check content) check content = b := by
  unfold sealL
  exact xorL_back (by rw [bodyL_length hl hc]; exact hb.symm)

end Go.Proofs.YtgnmbgbiajgpeaaDoor
