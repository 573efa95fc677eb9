/-
  Top: the law TopSecretPieces.
-/
import Derived.Test.YtgnmbgbiajgpeaaDoorTon
namespace Go.Proofs.YtgnmbgbiajgpeaaDoor
open Go Go.RowKit
set_option linter.unusedVariables false
set_option linter.unusedSimpArgs false

def refsL (c : UInt8) (l : List Str) (k : Nat) : List RefD := (List.range k).map fun i => ⟨nm15 c (UInt8.ofNat i), 0, ((l.getD i []).length : Nat)⟩
theorem refsL_length (c : UInt8) (l : List Str) (k : Nat) : (refsL c l k).length = k := by simp [refsL]
theorem refsL_succ (c : UInt8) (l : List Str) (k : Nat) : refsL c l (k + 1) = refsL c l k ++ [⟨nm15 c (UInt8.ofNat k), 0, ((l.getD k []).length : Nat)⟩] := by simp [refsL, List.range_succ]
theorem refsL_mem {c : UInt8} {l : List Str} {k : Nat} {r : RefD} (h : r ∈ refsL c l k) : ∃ i, i < k ∧ r = ⟨nm15 c (UInt8.ofNat i), 0, ((l.getD i []).length : Nat)⟩ := by
  obtain ⟨i, hi, rfl⟩ := List.mem_map.1 h
  exact ⟨i, List.mem_range.1 hi, rfl⟩
theorem refsL_good {c : UInt8} {l : List Str} {k : Nat} (hk : k ≤ 256) (hl : ∀ i, i < k → (l.getD i []).length ≤ 150) : GoodRefs (refsL c l k) := by
  constructor
  · rw [refsL_length]; omega
  · intro r hr; obtain ⟨i, _, rfl⟩ := refsL_mem hr; rfl
  · intro r hr; obtain ⟨i, _, rfl⟩ := refsL_mem hr; exact Int.le_refl 0
  · intro r hr; obtain ⟨i, _, rfl⟩ := refsL_mem hr; show (0 : Int) ≤ ((l.getD i []).length : Nat); omega
  · intro r hr; obtain ⟨i, hi, rfl⟩ := refsL_mem hr; have := hl i hi; show (((l.getD i []).length : Nat) : Int) ≤ 32768; omega
  · unfold refsL
    rw [List.map_map]
    refine List.pairwise_map.2 (List.Pairwise.imp_of_mem (fun {i j} hi hj hne e => hne ?_) List.nodup_range)
    have hi := List.mem_range.1 hi
    have hj := List.mem_range.1 hj
    have e : nm15 c (UInt8.ofNat i) = nm15 c (UInt8.ofNat j) := e
    exact ofNat_inj (by omega) (by omega) (List.cons.inj (List.cons.inj e).2).1
def blkL (seed check : Str) (cl : Nat) (cs : List Str) (k : Nat) : List Str := (List.range k).map fun i => sealL (strmL seed i cl) check (cs.getD i [])
theorem blkL_length (seed check : Str) (cl : Nat) (cs : List Str) (k : Nat) : (blkL seed check cl cs k).length = k := by simp [blkL]
theorem blkL_succ (seed check : Str) (cl : Nat) (cs : List Str) (k : Nat) : blkL seed check cl cs (k + 1) = blkL seed check cl cs k ++ [sealL (strmL seed k cl) check (cs.getD k [])] := by simp [blkL, List.range_succ]
/-- What is known of the first contents. -/
structure Sec (cs os : List Str) (cl k : Nat) : Prop where
  c1 : ∀ i, i < k → (cs.getD i []).length ≤ 150
  o1 : ∀ i, i < k → (os.getD i []).length ≤ 150
  c2 : ∀ i, i < k → clsF (cs.getD i []).length = cl
  o2 : ∀ i, i < k → clsF (os.getD i []).length = cl
theorem Sec.succ {cs os : List Str} {cl k : Nat} (h : Sec cs os cl k) (a : (cs.getD k []).length ≤ 150) (b : (os.getD k []).length ≤ 150) (c : clsF (cs.getD k []).length = cl) (d : clsF (os.getD k []).length = cl) : Sec cs os cl (k + 1) := by
  constructor
  all_goals (intro i hi; by_cases e : i = k)
  · rw [e]; exact a
  · exact h.c1 i (by omega)
  · rw [e]; exact b
  · exact h.o1 i (by omega)
  · rw [e]; exact c
  · exact h.c2 i (by omega)
  · rw [e]; exact d
  · exact h.o2 i (by omega)
theorem blkL_lens {seed check : Str} {cl k : Nat} {cs os : List Str} (hc : check.length = 16) (h : Sec cs os cl k) : ∀ x ∈ blkL seed check cl cs k, x.length = cl := fun x hx => by
  obtain ⟨i, hi, rfl⟩ := List.mem_map.1 hx
  have hi := List.mem_range.1 hi
  rw [sealL_length (by have := h.c1 i hi; omega) hc, h.c2 i hi]
theorem refsL_cls {c : UInt8} {l : List Str} {k cl : Nat} (h : ∀ i, i < k → clsF (l.getD i []).length = cl) : ∀ r ∈ refsL c l k, clsF r.sz.toNat = cl := fun r hr => by
  obtain ⟨i, hi, rfl⟩ := refsL_mem hr
  show clsF (((l.getD i []).length : Nat) : Int).toNat = cl
  rw [Int.toNat_natCast]; exact h i hi
theorem own_x {R : Rd} {h : Hp} (i : Nat) {g n : Nat} {e : TypeId} {x : Str} (hi : h[i]? = some (.row (some ⟨g, 0, .none⟩) n n e 1 (BV x) (0, 0))) (hn : n = x.length) : BsX false (RH R h) (.slice (some ⟨g, 0, .none⟩) n n) x := by
  subst hn
  exact ⟨_, _, rfl, (fun h => by cases h), BsR.own i hi rfl rfl (.inr ⟨g, rfl⟩)⟩
theorem own_z {R : Rd} {h : Hp} (i : Nat) {g : Nat} {e : TypeId} (hi : h[i]? = some (.row (some ⟨g, 0, .none⟩) 16 16 e 1 (repl [.int .u8 0] 16) (0, 0))) : BsX false (RH R h) (.slice (some ⟨g, 0, .none⟩) 16 16) (zerB 16) :=
  ⟨_, _, rfl, (fun h => by cases h), BsR.own i hi rfl rfl (.inr ⟨g, rfl⟩)⟩
theorem frz_x {h : Hp} (i : Nat) {g n : Nat} {e : TypeId} {x : Str} (hi : h[i]? = some (.row (some ⟨g, 0, .none⟩) n n e 1 (BV x) (0, 0))) (hn : n = x.length) : BsX true (cellsOf h) (.slice (some ⟨g, 0, .none⟩) n n) x := by
  have hb : BsR (RH noC h) (.slice (some ⟨g, 0, .none⟩) n n) x := BsR.own i hi hn rfl (.inr ⟨g, rfl⟩)
  subst hn
  exact ⟨_, _, rfl, (fun _ => Nat.le_refl _), SlR.mono hb fun _ _ => cells_rh⟩
set_option maxRecDepth 100000 in
set_option maxHeartbeats 8000000 in
theorem TopSecretPieces_law (R : Rd) (hG : ShaG R) (v0 v1 v2 v3 v4 v5 : Value) (s0 : SeenV R (.int .i64) v0) (s1 : SeenV R (.int .i64) v1) (s2 : SeenV R (.sl 1 (.sl 1 (.int .u8))) v2) (s3 : SeenV R (.sl 1 (.sl 1 (.int .u8))) v3) (s4 : SeenV R (.sl 1 (.int .u8)) v4) (s5 : SeenV R (.sl 1 (.int .u8)) v5) :
    Fn Tryd.prog 4 [v0, v1, v2, v3, v4, v5] [] R (fun v _ => v = .bool true) := by
  have hML := maxLen_eq
  obtain ⟨d, rfl, hd1, hd2⟩ := s0.i64
  obtain ⟨t, rfl, ht1, ht2⟩ := s1.i64
  obtain ⟨cs, hcl0, hC, hCx⟩ := s2.bssT
  obtain ⟨os, hol0, hO, hOx⟩ := s3.bssT
  obtain ⟨seed, hsl0, hS⟩ := s4.bsT
  obtain ⟨check, hkl0, hK⟩ := s5.bsT
  clear s0 s1 s2 s3 s4 s5
  have hC' := hC
  obtain ⟨CA, cc, cvs, rfl, _⟩ := hC'
  have hO' := hO
  obtain ⟨OA, oc, ovs, rfl, _⟩ := hO'
  have hS' := hS
  obtain ⟨SA, sc, rfl, _⟩ := hS'
  have hK' := hK
  obtain ⟨KA, kc, rfl, _⟩ := hK'
  refine fn_of_vc mixed tabOk Tryd.func4 rfl (by kernel_rfl) (Nat.le_of_ble_eq_true rfl) ?_
  refine ⟨[], _, Awake15_ok _ (hG.rh _), ?_⟩
  rintro _ _ ⟨rfl, rfl⟩
  repeat (first | (refine ⟨fun h => ?_, fun h => ?_⟩; rotate_left 1; (focus (exfalso; (first | (with_reducible (cases h; done)) | (revert h; simp; done) | (revert h; simp; omega) | (revert h; simp [*]; done)))); clear h) | (refine ⟨fun h => ?_, fun h => ?_⟩; (focus (exfalso; (first | (with_reducible (cases h; done)) | (revert h; simp; done) | (revert h; simp; omega) | (revert h; simp [*]; done)))); clear h))
  by_cases h1 : d < 1
  · repeat (first | (refine ⟨fun h => ?_, fun h => ?_⟩; rotate_left 1; (focus (exfalso; (first | (with_reducible (cases h; done)) | (revert h; simp; done) | (revert h; simp; omega) | (revert h; simp [*]; done)))); clear h) | (refine ⟨fun h => ?_, fun h => ?_⟩; (focus (exfalso; (first | (with_reducible (cases h; done)) | (revert h; simp; done) | (revert h; simp; omega) | (revert h; simp [*]; done)))); clear h))
    refine ⟨[], _, Awake15_ok _ (hG.rh _), ?_⟩
    rintro _ _ ⟨rfl, rfl⟩
    exact ⟨_, Ent.nil _, rfl⟩
  repeat (first | (refine ⟨fun h => ?_, fun h => ?_⟩; rotate_left 1; (focus (exfalso; (first | (with_reducible (cases h; done)) | (revert h; simp; done) | (revert h; simp; omega) | (revert h; simp [*]; done)))); clear h) | (refine ⟨fun h => ?_, fun h => ?_⟩; (focus (exfalso; (first | (with_reducible (cases h; done)) | (revert h; simp; done) | (revert h; simp; omega) | (revert h; simp [*]; done)))); clear h))
  by_cases h2 : t < d
  · repeat (first | (refine ⟨fun h => ?_, fun h => ?_⟩; rotate_left 1; (focus (exfalso; (first | (with_reducible (cases h; done)) | (revert h; simp; done) | (revert h; simp; omega) | (revert h; simp [*]; done)))); clear h) | (refine ⟨fun h => ?_, fun h => ?_⟩; (focus (exfalso; (first | (with_reducible (cases h; done)) | (revert h; simp; done) | (revert h; simp; omega) | (revert h; simp [*]; done)))); clear h))
    refine ⟨[], _, Awake15_ok _ (hG.rh _), ?_⟩
    rintro _ _ ⟨rfl, rfl⟩
    exact ⟨_, Ent.nil _, rfl⟩
  repeat (first | (refine ⟨fun h => ?_, fun h => ?_⟩; rotate_left 1; (focus (exfalso; (first | (with_reducible (cases h; done)) | (revert h; simp; done) | (revert h; simp; omega) | (revert h; simp [*]; done)))); clear h) | (refine ⟨fun h => ?_, fun h => ?_⟩; (focus (exfalso; (first | (with_reducible (cases h; done)) | (revert h; simp; done) | (revert h; simp; omega) | (revert h; simp [*]; done)))); clear h))
  by_cases h3 : 5 < t
  · repeat (first | (refine ⟨fun h => ?_, fun h => ?_⟩; rotate_left 1; (focus (exfalso; (first | (with_reducible (cases h; done)) | (revert h; simp; done) | (revert h; simp; omega) | (revert h; simp [*]; done)))); clear h) | (refine ⟨fun h => ?_, fun h => ?_⟩; (focus (exfalso; (first | (with_reducible (cases h; done)) | (revert h; simp; done) | (revert h; simp; omega) | (revert h; simp [*]; done)))); clear h))
    refine ⟨[], _, Awake15_ok _ (hG.rh _), ?_⟩
    rintro _ _ ⟨rfl, rfl⟩
    exact ⟨_, Ent.nil _, rfl⟩
  repeat (first | (refine ⟨fun h => ?_, fun h => ?_⟩; rotate_left 1; (focus (exfalso; (first | (with_reducible (cases h; done)) | (revert h; simp; done) | (revert h; simp; omega) | (revert h; simp [*]; done)))); clear h) | (refine ⟨fun h => ?_, fun h => ?_⟩; (focus (exfalso; (first | (with_reducible (cases h; done)) | (revert h; simp; done) | (revert h; simp; omega) | (revert h; simp [*]; done)))); clear h))
  by_cases h4 : (cs.length : Int) < 1
  · repeat (first | (refine ⟨fun h => ?_, fun h => ?_⟩; rotate_left 1; (focus (exfalso; (first | (with_reducible (cases h; done)) | (revert h; simp; done) | (revert h; simp; omega) | (revert h; simp [*]; done)))); clear h) | (refine ⟨fun h => ?_, fun h => ?_⟩; (focus (exfalso; (first | (with_reducible (cases h; done)) | (revert h; simp; done) | (revert h; simp; omega) | (revert h; simp [*]; done)))); clear h))
    refine ⟨[], _, Awake15_ok _ (hG.rh _), ?_⟩
    rintro _ _ ⟨rfl, rfl⟩
    exact ⟨_, Ent.nil _, rfl⟩
  repeat (first | (refine ⟨fun h => ?_, fun h => ?_⟩; rotate_left 1; (focus (exfalso; (first | (with_reducible (cases h; done)) | (revert h; simp; done) | (revert h; simp; omega) | (revert h; simp [*]; done)))); clear h) | (refine ⟨fun h => ?_, fun h => ?_⟩; (focus (exfalso; (first | (with_reducible (cases h; done)) | (revert h; simp; done) | (revert h; simp; omega) | (revert h; simp [*]; done)))); clear h))
  by_cases h5 : d < cs.length
  · repeat (first | (refine ⟨fun h => ?_, fun h => ?_⟩; rotate_left 1; (focus (exfalso; (first | (with_reducible (cases h; done)) | (revert h; simp; done) | (revert h; simp; omega) | (revert h; simp [*]; done)))); clear h) | (refine ⟨fun h => ?_, fun h => ?_⟩; (focus (exfalso; (first | (with_reducible (cases h; done)) | (revert h; simp; done) | (revert h; simp; omega) | (revert h; simp [*]; done)))); clear h))
    refine ⟨[], _, Awake15_ok _ (hG.rh _), ?_⟩
    rintro _ _ ⟨rfl, rfl⟩
    exact ⟨_, Ent.nil _, rfl⟩
  repeat (first | (refine ⟨fun h => ?_, fun h => ?_⟩; rotate_left 1; (focus (exfalso; (first | (with_reducible (cases h; done)) | (revert h; simp; done) | (revert h; simp; omega) | (revert h; simp [*]; done)))); clear h) | (refine ⟨fun h => ?_, fun h => ?_⟩; (focus (exfalso; (first | (with_reducible (cases h; done)) | (revert h; simp; done) | (revert h; simp; omega) | (revert h; simp [*]; done)))); clear h))
  by_cases h6 : (os.length : Int) = cs.length
  case neg =>
    repeat (first | (refine ⟨fun h => ?_, fun h => ?_⟩; rotate_left 1; (focus (exfalso; (first | (with_reducible (cases h; done)) | (revert h; simp; done) | (revert h; simp; omega) | (revert h; simp [*]; done)))); clear h) | (refine ⟨fun h => ?_, fun h => ?_⟩; (focus (exfalso; (first | (with_reducible (cases h; done)) | (revert h; simp; done) | (revert h; simp; omega) | (revert h; simp [*]; done)))); clear h))
    refine ⟨[], _, Awake15_ok _ (hG.rh _), ?_⟩
    rintro _ _ ⟨rfl, rfl⟩
    exact ⟨_, Ent.nil _, rfl⟩
  repeat (first | (refine ⟨fun h => ?_, fun h => ?_⟩; rotate_left 1; (focus (exfalso; (first | (with_reducible (cases h; done)) | (revert h; simp; done) | (revert h; simp; omega) | (revert h; simp [*]; done)))); clear h) | (refine ⟨fun h => ?_, fun h => ?_⟩; (focus (exfalso; (first | (with_reducible (cases h; done)) | (revert h; simp; done) | (revert h; simp; omega) | (revert h; simp [*]; done)))); clear h))
  by_cases h7 : (check.length : Int) = 16
  case neg =>
    repeat (first | (refine ⟨fun h => ?_, fun h => ?_⟩; rotate_left 1; (focus (exfalso; (first | (with_reducible (cases h; done)) | (revert h; simp; done) | (revert h; simp; omega) | (revert h; simp [*]; done)))); clear h) | (refine ⟨fun h => ?_, fun h => ?_⟩; (focus (exfalso; (first | (with_reducible (cases h; done)) | (revert h; simp; done) | (revert h; simp; omega) | (revert h; simp [*]; done)))); clear h))
    refine ⟨[], _, Awake15_ok _ (hG.rh _), ?_⟩
    rintro _ _ ⟨rfl, rfl⟩
    exact ⟨_, Ent.nil _, rfl⟩
  repeat (first | (refine ⟨fun h => ?_, fun h => ?_⟩; rotate_left 1; (focus (exfalso; (first | (with_reducible (cases h; done)) | (revert h; simp; done) | (revert h; simp; omega) | (revert h; simp [*]; done)))); clear h) | (refine ⟨fun h => ?_, fun h => ?_⟩; (focus (exfalso; (first | (with_reducible (cases h; done)) | (revert h; simp; done) | (revert h; simp; omega) | (revert h; simp [*]; done)))); clear h))
  by_cases h8 : (400 : Int) < seed.length
  · repeat (first | (refine ⟨fun h => ?_, fun h => ?_⟩; rotate_left 1; (focus (exfalso; (first | (with_reducible (cases h; done)) | (revert h; simp; done) | (revert h; simp; omega) | (revert h; simp [*]; done)))); clear h) | (refine ⟨fun h => ?_, fun h => ?_⟩; (focus (exfalso; (first | (with_reducible (cases h; done)) | (revert h; simp; done) | (revert h; simp; omega) | (revert h; simp [*]; done)))); clear h))
    refine ⟨[], _, Awake15_ok _ (hG.rh _), ?_⟩
    rintro _ _ ⟨rfl, rfl⟩
    exact ⟨_, Ent.nil _, rfl⟩
  repeat (first | (refine ⟨fun h => ?_, fun h => ?_⟩; rotate_left 1; (focus (exfalso; (first | (with_reducible (cases h; done)) | (revert h; simp; done) | (revert h; simp; omega) | (revert h; simp [*]; done)))); clear h) | (refine ⟨fun h => ?_, fun h => ?_⟩; (focus (exfalso; (first | (with_reducible (cases h; done)) | (revert h; simp; done) | (revert h; simp; omega) | (revert h; simp [*]; done)))); clear h))
  obtain ⟨a0, B0, bc0, hA0, hra0, _⟩ := hC.at_ (i := 0) (by omega)
  refine ⟨by decide, by omega, a0, hA0, ?_⟩
  refine ⟨_, .inl hra0, ?_⟩
  have hx0 : (cs.getD 0 []).length ≤ maxLen := by
    refine hCx _ ?_
    rw [List.getD_eq_getElem?_getD, List.getElem?_eq_getElem (show 0 < cs.length by omega)]
    exact List.getElem_mem _
  refine ⟨[], _, Class_ok _ ((cs.getD 0 []).length : Int) (by omega), ?_⟩
  rintro _ _ ⟨rfl, rfl⟩
  clear hra0 hx0
  generalize (clsV ((cs.getD 0 []).length : Int)).1 = cl
  refine ⟨rfl, fun g1 => ?_⟩
  refine ⟨rfl, fun g2 => ?_⟩
  refine ⟨rfl, fun g3 => ?_⟩
  refine ⟨rfl, fun g4 => ?_⟩
  refine ⟨[none, none, none, none, none, none, none, none, none, none, none, none, some 12, none, none, none, some 16, some 17, some 18, some 19, some 20, some 21, some 22, some 23, some 24, some 25, some 26, some 27, some 28, some 29, some 30, none, none, none, none, none, none, none, none, none, none, none, none, none, none, none, none, none, none, none, none, none, none, none, none, none, none, none, none, none, none, none, none, none, none, none, none, none, none, none, none, none, none, none, none, none, none, none, none, none, none, none, none, none, none, none, none, none, none, none, none, none, none, none, none, some 95, some 96, some 97, some 98, some 99, some 100, some 101, some 102, some 103, some 104, some 105, some 106, some 107, some 108, some 109, some 110, some 111, some 112, some 113, some 114, some 115, some 116, some 117, some 118, some 119, some 120, some 121, some 122, some 123, some 124, some 125, some 126, some 127, some 128, some 129, some 130, some 131, some 132, some 133, some 134, some 135, some 136, some 137, some 138, some 139, some 140, some 141, some 142, some 143, some 144, some 145, some 146, some 147, some 148, some 149, some 150, some 151, some 152, some 153, some 154, some 155, some 156, some 157, some 158, some 159, some 160, some 161, some 162, some 163, some 164, some 165, some 166, some 167, some 168, some 169, some 170, some 171, some 172, some 173, some 174, some 175, some 176, some 177, some 178, some 179, some 180, some 181, some 182, some 183, some 184, some 185, some 186, some 187, some 188, some 189, some 190, some 191, some 192, some 193, some 194, some 195, some 196, some 197, some 198, some 199, some 200, some 201, some 202, some 203, some 204, some 205, some 206, some 207, some 208, some 209, some 210, some 211, some 212, some 213], [16, 17, 18, 19, 95], Nat × (Option Addr × Nat) × (Option Addr × Nat) × (Option Addr × Nat × List Value) × (Option Addr × Nat × List Value) × List Nat × Rd,
    fun ⟨k, (A1, _), (A2, _), (A3, _, vs3), (A4, _, vs4), _, C⟩ => k ≤ cs.length ∧ (grow k A1 ∧ grow k A2 ∧ grow k A3 ∧ grow k A4) ∧ VsR true C vs3 (blkL seed check cl cs k) ∧ VsR true C vs4 (blkL seed check cl cs k) ∧ Sec cs os cl k,
    fun ⟨k, (A1, c1), (A2, c2), (A3, c3, _), (A4, c4, _), _, _⟩ => [.slice A1 k c1, .slice A2 k c2, .slice A3 k c3, .slice A4 k c4, .int .i64 k],
    fun ⟨k, (A1, c1), (A2, c2), (A3, c3, vs3), (A4, c4, vs4), ids, C⟩ => [.row A1 k c1 33 3 (refsC (refsL 1 cs k)) (0, 0), .row A2 k c2 33 3 (refsC (refsL 2 os k)) (0, 0), .row A3 k c3 25 1 vs3 (0, 0), .row A4 k c4 25 1 vs4 (0, 0), .ro ids C], fun ⟨k, _⟩ => cs.length - k,
    (0, (some ⟨g1, 0, .none⟩, 0), (some ⟨g2, 0, .none⟩, 0), (some ⟨g3, 0, .none⟩, 0, []), (some ⟨g4, 0, .none⟩, 0, []), [], noC), ⟨Nat.zero_le _, ⟨.inr ⟨g1, rfl⟩, .inr ⟨g2, rfl⟩, .inr ⟨g3, rfl⟩, .inr ⟨g4, rfl⟩⟩, VsR.nil _ _, VsR.nil _ _, ⟨fun i h => absurd h (by omega), fun i h => absurd h (by omega), fun i h => absurd h (by omega), fun i h => absurd h (by omega)⟩⟩, ⟨rfl, rfl, rfl, rfl, rfl, trivial⟩, Ent.ro0 _, ?_⟩
  rintro ⟨k, ⟨A1, c1⟩, ⟨A2, c2⟩, ⟨A3, c3, vs3⟩, ⟨A4, c4, vs4⟩, ids, C⟩ ⟨hk, ⟨hg1, hg2, hg3, hg4⟩, hv3, hv4, hsec⟩ js
  have hk : k ≤ cs.length := hk
  have hg1 : grow k A1 := hg1
  have hg2 : grow k A2 := hg2
  have hg3 : grow k A3 := hg3
  have hg4 : grow k A4 := hg4
  have hv3 : VsR true C vs3 (blkL seed check cl cs k) := hv3
  have hv4 : VsR true C vs4 (blkL seed check cl cs k) := hv4
  have hsec : Sec cs os cl k := hsec
  by_cases dk : k < cs.length
  · repeat (first | (refine ⟨fun h => ?_, fun h => ?_⟩; rotate_left 1; (focus (exfalso; (first | (with_reducible (cases h; done)) | (revert h; simp; done) | (revert h; simp; omega) | (revert h; simp [*]; done)))); clear h) | (refine ⟨fun h => ?_, fun h => ?_⟩; (focus (exfalso; (first | (with_reducible (cases h; done)) | (revert h; simp; done) | (revert h; simp; omega) | (revert h; simp [*]; done)))); clear h))
    obtain ⟨a, B, bc, hA, hra, hx⟩ := hC.at_ (i := k) dk
    obtain ⟨a', B', bc', hA', hra', hy⟩ := hO.at_ (i := k) (by omega)
    have hsx := hsec.succ
    have hb1 := blkL_succ seed check cl cs k
    have hr1 := refsL_succ 1 cs k
    have hr2 := refsL_succ 2 os k
    generalize cs.getD k [] = x at hra hx hsx hb1 hr1
    generalize os.getD k [] = y at hra' hy hsx hr2
    refine ⟨by omega, by omega, a, hA, ?_⟩
    refine ⟨_, .inl hra, ?_⟩
    by_cases e1 : (150 : Int) < x.length
    · repeat (first | (refine ⟨fun h => ?_, fun h => ?_⟩; rotate_left 1; (focus (exfalso; (first | (with_reducible (cases h; done)) | (revert h; simp; done) | (revert h; simp; omega) | (revert h; simp [*]; done)))); clear h) | (refine ⟨fun h => ?_, fun h => ?_⟩; (focus (exfalso; (first | (with_reducible (cases h; done)) | (revert h; simp; done) | (revert h; simp; omega) | (revert h; simp [*]; done)))); clear h))
      exact ⟨_, Ent.nil _, rfl⟩
    repeat (first | (refine ⟨fun h => ?_, fun h => ?_⟩; rotate_left 1; (focus (exfalso; (first | (with_reducible (cases h; done)) | (revert h; simp; done) | (revert h; simp; omega) | (revert h; simp [*]; done)))); clear h) | (refine ⟨fun h => ?_, fun h => ?_⟩; (focus (exfalso; (first | (with_reducible (cases h; done)) | (revert h; simp; done) | (revert h; simp; omega) | (revert h; simp [*]; done)))); clear h))
    refine ⟨by omega, by omega, a', hA', ?_⟩
    repeat (first | (refine ⟨fun h => ?_, fun h => ?_⟩; rotate_left 1; (focus (exfalso; (first | (with_reducible (cases h; done)) | (revert h; simp; done) | (revert h; simp; omega) | (revert h; simp [*]; done)))); clear h) | (refine ⟨fun h => ?_, fun h => ?_⟩; (focus (exfalso; (first | (with_reducible (cases h; done)) | (revert h; simp; done) | (revert h; simp; omega) | (revert h; simp [*]; done)))); clear h))
    refine ⟨_, .inl hra', ?_⟩
    repeat (first | (refine ⟨fun h => ?_, fun h => ?_⟩; rotate_left 1; (focus (exfalso; (first | (with_reducible (cases h; done)) | (revert h; simp; done) | (revert h; simp; omega) | (revert h; simp [*]; done)))); clear h) | (refine ⟨fun h => ?_, fun h => ?_⟩; (focus (exfalso; (first | (with_reducible (cases h; done)) | (revert h; simp; done) | (revert h; simp; omega) | (revert h; simp [*]; done)))); clear h))
    by_cases e2 : (150 : Int) < y.length
    · repeat (first | (refine ⟨fun h => ?_, fun h => ?_⟩; rotate_left 1; (focus (exfalso; (first | (with_reducible (cases h; done)) | (revert h; simp; done) | (revert h; simp; omega) | (revert h; simp [*]; done)))); clear h) | (refine ⟨fun h => ?_, fun h => ?_⟩; (focus (exfalso; (first | (with_reducible (cases h; done)) | (revert h; simp; done) | (revert h; simp; omega) | (revert h; simp [*]; done)))); clear h))
      exact ⟨_, Ent.nil _, rfl⟩
    repeat (first | (refine ⟨fun h => ?_, fun h => ?_⟩; rotate_left 1; (focus (exfalso; (first | (with_reducible (cases h; done)) | (revert h; simp; done) | (revert h; simp; omega) | (revert h; simp [*]; done)))); clear h) | (refine ⟨fun h => ?_, fun h => ?_⟩; (focus (exfalso; (first | (with_reducible (cases h; done)) | (revert h; simp; done) | (revert h; simp; omega) | (revert h; simp [*]; done)))); clear h))
    have hcx : clsV (x.length : Int) = (clsF x.length, 0) := by rw [clsV_in (by omega) (by omega), Int.toNat_natCast]
    have hcy : clsV (y.length : Int) = (clsF y.length, 0) := by rw [clsV_in (by omega) (by omega), Int.toNat_natCast]
    refine ⟨by omega, by omega, a, hA, ?_⟩
    refine ⟨_, .inl hra, ?_⟩
    refine ⟨[], _, Class_ok _ (x.length : Int) (by omega), ?_⟩
    rw [hcx]
    rintro _ _ ⟨rfl, rfl⟩
    refine ⟨by omega, by omega, a', hA', ?_⟩
    refine ⟨_, .inl hra', ?_⟩
    refine ⟨[], _, Class_ok _ (y.length : Int) (by omega), ?_⟩
    rw [hcy]
    rintro _ _ ⟨rfl, rfl⟩
    by_cases e3 : ((clsF x.length : Nat) : Int) = cl
    case neg =>
      repeat (first | (refine ⟨fun h => ?_, fun h => ?_⟩; rotate_left 1; (focus (exfalso; (first | (with_reducible (cases h; done)) | (revert h; simp; done) | (revert h; simp; omega) | (revert h; simp [*]; done)))); clear h) | (refine ⟨fun h => ?_, fun h => ?_⟩; (focus (exfalso; (first | (with_reducible (cases h; done)) | (revert h; simp; done) | (revert h; simp; omega) | (revert h; simp [*]; done)))); clear h))
      exact ⟨_, Ent.nil _, rfl⟩
    repeat (first | (refine ⟨fun h => ?_, fun h => ?_⟩; rotate_left 1; (focus (exfalso; (first | (with_reducible (cases h; done)) | (revert h; simp; done) | (revert h; simp; omega) | (revert h; simp [*]; done)))); clear h) | (refine ⟨fun h => ?_, fun h => ?_⟩; (focus (exfalso; (first | (with_reducible (cases h; done)) | (revert h; simp; done) | (revert h; simp; omega) | (revert h; simp [*]; done)))); clear h))
    by_cases e4 : ((clsF y.length : Nat) : Int) = cl
    case neg =>
      repeat (first | (refine ⟨fun h => ?_, fun h => ?_⟩; rotate_left 1; (focus (exfalso; (first | (with_reducible (cases h; done)) | (revert h; simp; done) | (revert h; simp; omega) | (revert h; simp [*]; done)))); clear h) | (refine ⟨fun h => ?_, fun h => ?_⟩; (focus (exfalso; (first | (with_reducible (cases h; done)) | (revert h; simp; done) | (revert h; simp; omega) | (revert h; simp [*]; done)))); clear h))
      exact ⟨_, Ent.nil _, rfl⟩
    repeat (first | (refine ⟨fun h => ?_, fun h => ?_⟩; rotate_left 1; (focus (exfalso; (first | (with_reducible (cases h; done)) | (revert h; simp; done) | (revert h; simp; omega) | (revert h; simp [*]; done)))); clear h) | (refine ⟨fun h => ?_, fun h => ?_⟩; (focus (exfalso; (first | (with_reducible (cases h; done)) | (revert h; simp; done) | (revert h; simp; omega) | (revert h; simp [*]; done)))); clear h))
    have e3' : clsF x.length = cl := by omega
    have e4' : clsF y.length = cl := by omega
    have hsp := clsF_spec (n := x.length) (by omega)
    rw [e3'] at hsp
    have hck : check.length = 16 := by omega
    have hbl : (sealL (strmL seed k cl) check x).length = cl := by rw [sealL_length (by omega) hck, e3']
    have hz16 : (zerB 16).length = 16 := by simp [zerB]
    refine ⟨[], (.q 0 (.q 1 (.q 2 (.q 4 (.q 5 (.q 6 (.q 7 (.q 8 (.one 3 (.one 9 (.q 10 (.q 11 (.q 12 (.q 13 (.q 14 .nil))))))))))))))), by kernel_rfl, ?_⟩
    refine ⟨by omega, by omega, a, hA, ?_⟩
    refine ⟨_, .inl hra, ?_⟩
    refine ⟨[], _, Stream15_ok _ seed k cl _ (by omega) (by omega) (by omega) ((hS.x.rh _).rh _), ?_⟩
    rintro _ _ ⟨g5, rfl, rfl⟩
    refine ⟨[], _, SealWith_ok _ (strmL seed k cl) check x _ _ _ (by omega) hck (by rw [strmL_length, e3']) (own_x 5 rfl (strmL_length seed k cl).symm) ((hK.x.rh _).rh _) ((hx.weak.rh _).rh _), ?_⟩
    rw [hbl]
    generalize sealL (strmL seed k cl) check x = b at hbl hb1 ⊢
    rintro _ _ ⟨g6, rfl, rfl⟩
    have hexl : (sealL b (zerB 16) y).length = cl := by rw [sealL_length (by omega) hz16, e4']
    have hback : sealL (sealL b (zerB 16) y) (zerB 16) y = b := seal_back (by omega) hz16 (by rw [hbl, e4'])
    refine ⟨[], (.q 0 (.q 2 (.q 3 (.q 4 (.q 5 (.one 1 (.one 6 (.q 7 (.q 8 (.q 9 (.q 10 (.q 11 .nil)))))))))))), by kernel_rfl, ?_⟩
    refine ⟨by omega, by omega, a', hA', ?_⟩
    refine ⟨_, .inl hra', ?_⟩
    refine ⟨by decide, by decide, by decide, by decide, fun g7 => ?_⟩
    refine ⟨[], _, Explain_ok _ b (zerB 16) y _ _ _ (by omega) hz16 (by rw [hbl, e4']) (own_x 6 rfl hbl.symm) (own_z 7 rfl) ((hy.weak.rh _).rh _), ?_⟩
    rw [hexl]
    generalize sealL b (zerB 16) y = ex at hexl hback ⊢
    rintro _ _ ⟨g8, rfl, rfl⟩
    refine ⟨[], (.q 0 (.q 2 (.q 3 (.q 4 (.q 5 (.one 1 (.one 6 (.q 7 (.q 8 (.q 9 (.q 10 (.q 11 .nil)))))))))))), by kernel_rfl, ?_⟩
    refine ⟨by omega, by omega, a', hA', ?_⟩
    refine ⟨_, .inl hra', ?_⟩
    refine ⟨by decide, by decide, by decide, by decide, fun g9 => ?_⟩
    refine ⟨[], _, SealWith_ok _ ex (zerB 16) y _ _ _ (by omega) hz16 (by rw [hexl, e4']) (own_x 8 rfl hexl.symm) (own_z 9 rfl) ((hy.weak.rh _).rh _), ?_⟩
    rw [hback, hbl]
    rintro _ _ ⟨g10, rfl, rfl⟩
    repeat (first | (refine ⟨fun h => ?_, fun h => ?_⟩; rotate_left 1; (focus (exfalso; (first | (with_reducible (cases h; done)) | (revert h; simp; done) | (revert h; simp; omega) | (revert h; simp [*]; done)))); clear h) | (refine ⟨fun h => ?_, fun h => ?_⟩; (focus (exfalso; (first | (with_reducible (cases h; done)) | (revert h; simp; done) | (revert h; simp; omega) | (revert h; simp [*]; done)))); clear h))
    refine ⟨rfl, fun g11 => ?_⟩
    refine ⟨[.slice (some ⟨g6, 0, .none⟩) cl cl], rfl, srcS (SlR.own 11 rfl rfl (.inr ⟨g11, rfl⟩)), rfl, by show (_ + 1) * 24 ≤ _; omega, by omega, .inr ⟨2, rfl, rfl, rfl, rfl, rfl, rfl, fun A3' c3' hg3' => ?_⟩⟩
    refine ⟨rfl, fun g12 => ?_⟩
    refine ⟨[.slice (some ⟨g10, 0, .none⟩) cl cl], rfl, srcS (SlR.own 12 rfl rfl (.inr ⟨g12, rfl⟩)), rfl, by show (_ + 1) * 24 ≤ _; omega, by omega, .inr ⟨3, rfl, rfl, rfl, rfl, rfl, rfl, fun A4' c4' hg4' => ?_⟩⟩
    refine ⟨[], (.q 0 (.q 1 (.q 2 (.q 4 (.q 5 (.q 6 (.q 7 (.q 8 (.one 3 (.q 9 (.one 10 (.one 11 (.q 12 .nil))))))))))))), by kernel_rfl, ?_⟩
    intro z hz
    obtain rfl : z = ((UInt8.ofNat k).toNat : Nat) := u8_wrapN hz
    clear hz
    refine ⟨by omega, by omega, a, hA, ?_⟩
    refine ⟨_, .inl hra, ?_⟩
    refine ⟨[], _, Name15_ok _ 1 (UInt8.ofNat k), ?_⟩
    rintro _ _ ⟨rfl, rfl⟩
    refine ⟨rfl, fun g13 => ?_⟩
    refine ⟨refsC [⟨nm15 1 (UInt8.ofNat k), 0, (x.length : Nat)⟩], rfl, srcS (SlR.own 13 rfl rfl (.inr ⟨g13, rfl⟩)), rfl, by show (_ + 1) * 32 ≤ _; omega, by omega, .inr ⟨0, rfl, rfl, rfl, rfl, rfl, rfl, fun A1' c1' hg1' => ?_⟩⟩
    refine ⟨[], (.q 0 (.q 1 (.q 2 (.q 4 (.q 5 (.q 6 (.q 7 (.q 8 (.one 3 (.q 9 (.one 10 (.one 11 (.q 12 .nil))))))))))))), by kernel_rfl, ?_⟩
    intro z hz
    obtain rfl : z = ((UInt8.ofNat k).toNat : Nat) := u8_wrapN hz
    clear hz
    refine ⟨by omega, by omega, a', hA', ?_⟩
    refine ⟨_, .inl hra', ?_⟩
    refine ⟨[], _, Name15_ok _ 2 (UInt8.ofNat k), ?_⟩
    rintro _ _ ⟨rfl, rfl⟩
    refine ⟨rfl, fun g14 => ?_⟩
    refine ⟨refsC [⟨nm15 2 (UInt8.ofNat k), 0, (y.length : Nat)⟩], rfl, srcS (SlR.own 14 rfl rfl (.inr ⟨g14, rfl⟩)), rfl, by show (_ + 1) * 32 ≤ _; omega, by omega, .inr ⟨1, rfl, rfl, rfl, rfl, rfl, rfl, fun A2' c2' hg2' => ?_⟩⟩
    (intro z hz; obtain rfl : z = ((k + 1 : Nat) : Int) := (by first | (rw [IntKind.wrap_i64] at hz; omega) | (rw [IntKind.wrap_u64] at hz; omega) | omega); clear hz)
    obtain ⟨q, hq⟩ : ∃ q : Hp, q = [.ro ids C, .row (some ⟨g5, 0, .none⟩) cl cl 5 1 (BV (strmL seed k cl)) (0, 0), .row (some ⟨g6, 0, .none⟩) cl cl 5 1 (BV b) (0, 0), .row (some ⟨g7, 0, .none⟩) 16 16 5 1 (repl [.int .u8 0] 16) (0, 0), .row (some ⟨g8, 0, .none⟩) cl cl 5 1 (BV ex) (0, 0), .row (some ⟨g9, 0, .none⟩) 16 16 5 1 (repl [.int .u8 0] 16) (0, 0), .row (some ⟨g10, 0, .none⟩) cl cl 5 1 (BV b) (0, 0),
      .row (some ⟨g11, 0, .none⟩) 1 1 25 1 [.slice (some ⟨g6, 0, .none⟩) cl cl] (0, 0), .row (some ⟨g12, 0, .none⟩) 1 1 25 1 [.slice (some ⟨g10, 0, .none⟩) cl cl] (0, 0), .row (some ⟨g13, 0, .none⟩) 1 1 33 3 (refsC [⟨nm15 1 (UInt8.ofNat k), 0, (x.length : Nat)⟩]) (0, 0), .row (some ⟨g14, 0, .none⟩) 1 1 33 3 (refsC [⟨nm15 2 (UInt8.ofNat k), 0, (y.length : Nat)⟩]) (0, 0)] := ⟨_, rfl⟩
    refine ⟨rfl, (k + 1, (A1', c1'), (A2', c2'), (A3', c3', vs3 ++ [.slice (some ⟨g6, 0, .none⟩) cl cl]), (A4', c4', vs4 ++ [.slice (some ⟨g10, 0, .none⟩) cl cl]), idsOf q, cellsOf q), ⟨dk, ⟨hg1', hg2', hg3', hg4'⟩, ?_, ?_, hsx (by omega) (by omega) e3' e4'⟩, by show cs.length - (k + 1) < cs.length - k; omega, ⟨rfl, rfl, rfl, rfl, rfl, trivial⟩, ?_, rfl⟩
    · rw [hb1]
      exact VsR.snoc (hv3.mono (ro_in 0 (by rw [hq]; rfl))) (frz_x 2 (by rw [hq]; rfl) hbl.symm)
    · rw [hb1]
      exact VsR.snoc (hv4.mono (ro_in 0 (by rw [hq]; rfl))) (frz_x 6 (by rw [hq]; rfl) hbl.symm)
    · show Ent _ ([.row A1' (k + 1) c1' 33 3 (refsC (refsL 1 cs (k + 1))) (0, 0), .row A2' (k + 1) c2' 33 3 (refsC (refsL 2 os (k + 1))) (0, 0), .row A3' (k + 1) c3' 25 1 (vs3 ++ [.slice (some ⟨g6, 0, .none⟩) cl cl]) (0, 0), .row A4' (k + 1) c4' 25 1 (vs4 ++ [.slice (some ⟨g10, 0, .none⟩) cl cl]) (0, 0)] ++ [.ro (idsOf q) (cellsOf q)])
      rw [hr1, hr2, refsC_app, refsC_app, hq]
      exact Ent.freeze [_, _, _, _] _
  repeat (first | (refine ⟨fun h => ?_, fun h => ?_⟩; rotate_left 1; (focus (exfalso; (first | (with_reducible (cases h; done)) | (revert h; simp; done) | (revert h; simp; omega) | (revert h; simp [*]; done)))); clear h) | (refine ⟨fun h => ?_, fun h => ?_⟩; (focus (exfalso; (first | (with_reducible (cases h; done)) | (revert h; simp; done) | (revert h; simp; omega) | (revert h; simp [*]; done)))); clear h))
  obtain rfl : k = cs.length := by omega
  obtain ⟨dn, rfl⟩ : ∃ n : Nat, d = n := ⟨d.toNat, by omega⟩
  obtain ⟨tn, rfl⟩ : ∃ n : Nat, t = n := ⟨t.toNat, by omega⟩
  have hck : check.length = 16 := by omega
  have hlens := blkL_lens (seed := seed) hck hsec
  have hbl := blkL_length seed check cl cs cs.length
  have hcl : 64 ≤ cl ∧ cl ≤ 65536 := by
    have a1 := hsec.c1 0 (by omega)
    have a2 := hsec.c2 0 (by omega)
    have a3 := clsF_spec (n := (cs.getD 0 []).length) (by omega)
    omega
  have hgr1 : GoodRefs (refsL 1 cs cs.length) := refsL_good (by omega) hsec.c1
  have hgr2 : GoodRefs (refsL 2 os cs.length) := refsL_good (by omega) hsec.o1
  have hcl1 : ∀ r ∈ refsL 1 cs cs.length, clsF r.sz.toNat = cl := refsL_cls hsec.c2
  have hcl2 : ∀ r ∈ refsL 2 os cs.length, clsF r.sz.toNat = cl := refsL_cls hsec.o2
  have hrl1 := refsL_length 1 cs cs.length
  have hrl2 := refsL_length 2 os cs.length
  clear hsec
  generalize blkL seed check cl cs cs.length = bl at hlens hbl hv3 hv4
  obtain ⟨l1, hl1⟩ : ∃ l, l = refsL 1 cs cs.length := ⟨_, rfl⟩
  obtain ⟨l2, hl2⟩ : ∃ l, l = refsL 2 os cs.length := ⟨_, rfl⟩
  rw [← hl1] at hgr1 hcl1 hrl1
  rw [← hl2] at hgr2 hcl2 hrl2
  have hBk : BlkR bl cl := ⟨by omega, by omega, hlens⟩
  refine ⟨[], _, Make_ok (s := true) _ (hG.rh _) dn tn cl bl l1 (.slice A1 cs.length c1) (.slice A3 cs.length c3) (by omega) (by omega) (by omega) (by omega) (by omega) (by omega) hBk (by omega) hgr1 hcl1 (refs_own 0 (by rw [hl1]; rfl) hrl1 hg1) (Bss.own 2 rfl hg3 hbl.symm (hv3.mono (ro_rh 4 rfl))), ?_⟩
  rintro _ _ ⟨u, Rf, ids1, C1, rfl, rfl, hu, hR⟩
  have hR' := hR
  obtain ⟨_, Ar, cr, rfl, _⟩ := hR'
  have hu' := hu
  obtain ⟨Au, cu, lu, rfl, _⟩ := hu'
  intro gs
  refine ⟨rfl, rfl, 6, rfl, rfl, Nat.le_of_ble_eq_true rfl, ?_⟩
  refine ⟨[], _, Make_ok (s := true) _ (hG.rh _) dn tn cl bl l2 (.slice A2 cs.length c2) (.slice A4 cs.length c4) (by omega) (by omega) (by omega) (by omega) (by omega) (by omega) hBk (by omega) hgr2 hcl2 (refs_own 1 (by rw [hl2]; rfl) hrl2 hg2) (Bss.own 3 rfl hg4 hbl.symm (hv4.mono (ro_rh 4 rfl))), ?_⟩
  rintro _ _ ⟨u2, Rf2, ids2, C2, rfl, rfl, hu2, hR2⟩
  have hR' := hR2
  obtain ⟨_, Ar2, cr2, rfl, _⟩ := hR'
  have hu' := hu2
  obtain ⟨Au2, cu2, lu2, rfl, _⟩ := hu'
  intro gt
  refine ⟨rfl, rfl, 8, rfl, rfl, Nat.le_of_ble_eq_true rfl, ?_⟩
  have hLl := rsE_length dn tn bl cl
  have hgs1 : GoodSt (mkSt dn tn cl bl) l1 := mk_good (by omega) (by omega) (by omega) (by omega) (by omega) (by omega) (by omega) hgr1 hcl1
  have hgs2 : GoodSt (mkSt dn tn cl bl) l2 := mk_good (by omega) (by omega) (by omega) (by omega) (by omega) (by omega) (by omega) hgr2 hcl2
  have hfit : ∀ i, i < tn → FitP (mkSt dn tn cl bl) (pcI (rsE dn tn bl cl) i) := fun i hi => mk_fits (by omega) (by omega) (by omega) (by omega) (by omega) hBk hi
  generalize rsE dn tn bl cl = L at hLl hfit hu hu2 ⊢
  have hpl : (pcsE L).length = tn := by rw [pcsE_length, hLl]
  rw [hpl] at hu hu2 ⊢
  repeat (first | (refine ⟨fun h => ?_, fun h => ?_⟩; rotate_left 1; (focus (exfalso; (first | (with_reducible (cases h; done)) | (revert h; simp; done) | (revert h; simp; omega) | (revert h; simp [*]; done)))); clear h) | (refine ⟨fun h => ?_, fun h => ?_⟩; (focus (exfalso; (first | (with_reducible (cases h; done)) | (revert h; simp; done) | (revert h; simp; omega) | (revert h; simp [*]; done)))); clear h))
  refine ⟨_, ld 6 rfl rfl, ?_⟩
  repeat (first | (refine ⟨fun h => ?_, fun h => ?_⟩; rotate_left 1; (focus (exfalso; (first | (with_reducible (cases h; done)) | (revert h; simp; done) | (revert h; simp; omega) | (revert h; simp [*]; done)))); clear h) | (refine ⟨fun h => ?_, fun h => ?_⟩; (focus (exfalso; (first | (with_reducible (cases h; done)) | (revert h; simp; done) | (revert h; simp; omega) | (revert h; simp [*]; done)))); clear h))
  refine ⟨_, ld 8 rfl rfl, ?_⟩
  repeat (first | (refine ⟨fun h => ?_, fun h => ?_⟩; rotate_left 1; (focus (exfalso; (first | (with_reducible (cases h; done)) | (revert h; simp; done) | (revert h; simp; omega) | (revert h; simp [*]; done)))); clear h) | (refine ⟨fun h => ?_, fun h => ?_⟩; (focus (exfalso; (first | (with_reducible (cases h; done)) | (revert h; simp; done) | (revert h; simp; omega) | (revert h; simp [*]; done)))); clear h))
  refine ⟨[none, none, none, none, none, none, none, none, none, none, none, none, some 12, none, none, none, none, none, none, none, none, none, none, none, none, none, none, none, none, none, none, none, none, none, none, none, none, some 37, none, none, none, none, none, none, none, none, none, none, none, none, none, none, none, none, none, none, none, none, none, none, none, none, none, none, none, none, none, none, none, none, none, none, none, none, none, none, none, none, none, none, none, none, none, none, none, none, none, none, none, none, none, none, none, none, none, none, none, none, none, none, none, none, none, none, none, none, none, none, none, none, none, none, none, none, none, none, none, none, none, none, none, none, none, none, none, none, none, none, none, none, none, none, none, none, none, none, none, none, none, none, none, none, none, none, none, none, none, none, none, none, none, none, none, none, none, none, none, none, none, none, none, none, none, none, none, none, none, none, none, none, none, none, none, none, none, none, none, none, none, none, none, none, none, none, none, none, none, none, none, none, none, none, none, none, none, none, none, none, none, none, none, none, none, none, none, none, none, none, none, none, none, none, none, none, none, none, none, none, none, none, none, none, none, none, none, none, none, none, none, none, none, none, none, none, none, none, none, none, none, none, none, none, none, none, none, none, none, none, none, none, none, none, none, none, some 254, some 255, some 256, some 257, some 258, some 259, some 260, some 261, some 262, some 263, some 264, some 265, some 266, some 267, some 268, some 269, some 270, some 271, some 272, some 273, some 274, some 275, some 276, some 277, some 278, some 279, some 280, some 281, some 282, some 283, some 284, some 285], [254], Nat, fun i => i ≤ tn, fun i => [.int .i64 i], fun _ => [.ro ids1 C1, .blk gs 35 (stpC (mkSt dn tn cl bl) (.slice Ar l1.length cr)), .ro ids2 C2, .blk gt 35 (stpC (mkSt dn tn cl bl) (.slice Ar2 l2.length cr2))], fun i => tn - i, 0, Nat.zero_le _, ⟨rfl, trivial⟩, Ent.pick [5, 5, 5, 5] rfl, ?_⟩
  intro i hi js2
  have hi : i ≤ tn := hi
  by_cases di : i < tn
  · repeat (first | (refine ⟨fun h => ?_, fun h => ?_⟩; rotate_left 1; (focus (exfalso; (first | (with_reducible (cases h; done)) | (revert h; simp; done) | (revert h; simp; omega) | (revert h; simp [*]; done)))); clear h) | (refine ⟨fun h => ?_, fun h => ?_⟩; (focus (exfalso; (first | (with_reducible (cases h; done)) | (revert h; simp; done) | (revert h; simp; omega) | (revert h; simp [*]; done)))); clear h))
    have hp1 : (pcsE L)[i]? = some (pcI L i) := pcsE_get (by omega)
    obtain ⟨a, PD, PS, rfl, hra, hPD, hPS⟩ := hu.at_ hp1
    obtain ⟨a', QD, QS, rfl, hra', hQD, hQS⟩ := hu2.at_ hp1
    have hfp := hfit i di
    have hpn : (pcI L i).sums.length ≤ 1000000 := by show (sumsE L).length ≤ _; rw [sumsE_length]; omega
    generalize pcI L i = p at hra hra' hPD hPS hQD hQS hfp hpn
    refine ⟨[0,0,0,0], (.q 0 (.q 1 (.q 2 (.q 3 (.q 4 (.q 5 (.q 6 (.q 7 (.one 8 (.q 9 (.q 10 (.q 11 (.q 12 (.q 13 (.q 14 (.q 15 (.one 16 (.q 17 (.q 18 (.q 19 (.q 20 (.q 21 (.q 22 (.q 23 (.q 24 (.one 25 (.q 26 (.q 27 .nil)))))))))))))))))))))))))))), by kernel_rfl, ?_⟩
    refine ⟨by omega, by omega, a, rfl, ?_⟩
    refine ⟨_, fun j u h => ro_rh 0 rfl _ _ (rdn hra j u h), rfl, ?_⟩
    refine ⟨by omega, by omega, a', rfl, ?_⟩
    refine ⟨_, fun j u h => ro_rh 2 rfl _ _ (rdn hra' j u h), rfl, ?_⟩
    refine ⟨[], _, Same15_ok _ p p _ _ _ _ hpn (hPD.mono fun a v h => .inl (ro_rh 0 rfl a v h)) (hPS.mono fun a v h => .inl (ro_rh 0 rfl a v h)) (hQD.mono fun a v h => .inl (ro_rh 2 rfl a v h)) (hQS.mono fun a v h => .inl (ro_rh 2 rfl a v h)), ?_⟩
    rw [decide_eq_true (show sameP p p from ⟨⟨rfl, rfl⟩, rfl, rfl⟩)]
    rintro _ _ ⟨rfl, rfl⟩
    repeat (first | (refine ⟨fun h => ?_, fun h => ?_⟩; rotate_left 1; (focus (exfalso; (first | (with_reducible (cases h; done)) | (revert h; simp; done) | (revert h; simp; omega) | (revert h; simp [*]; done)))); clear h) | (refine ⟨fun h => ?_, fun h => ?_⟩; (focus (exfalso; (first | (with_reducible (cases h; done)) | (revert h; simp; done) | (revert h; simp; omega) | (revert h; simp [*]; done)))); clear h))
    refine ⟨_, rdOff (o := 0) (n := 6) 1 rfl rfl, rfl, ?_⟩
    repeat (first | (refine ⟨fun h => ?_, fun h => ?_⟩; rotate_left 1; (focus (exfalso; (first | (with_reducible (cases h; done)) | (revert h; simp; done) | (revert h; simp; omega) | (revert h; simp [*]; done)))); clear h) | (refine ⟨fun h => ?_, fun h => ?_⟩; (focus (exfalso; (first | (with_reducible (cases h; done)) | (revert h; simp; done) | (revert h; simp; omega) | (revert h; simp [*]; done)))); clear h))
    refine ⟨by omega, by omega, a, rfl, ?_⟩
    repeat (first | (refine ⟨fun h => ?_, fun h => ?_⟩; rotate_left 1; (focus (exfalso; (first | (with_reducible (cases h; done)) | (revert h; simp; done) | (revert h; simp; omega) | (revert h; simp [*]; done)))); clear h) | (refine ⟨fun h => ?_, fun h => ?_⟩; (focus (exfalso; (first | (with_reducible (cases h; done)) | (revert h; simp; done) | (revert h; simp; omega) | (revert h; simp [*]; done)))); clear h))
    refine ⟨_, fun j u h => ro_rh 0 rfl _ _ (rdn hra j u h), rfl, ?_⟩
    repeat (first | (refine ⟨fun h => ?_, fun h => ?_⟩; rotate_left 1; (focus (exfalso; (first | (with_reducible (cases h; done)) | (revert h; simp; done) | (revert h; simp; omega) | (revert h; simp [*]; done)))); clear h) | (refine ⟨fun h => ?_, fun h => ?_⟩; (focus (exfalso; (first | (with_reducible (cases h; done)) | (revert h; simp; done) | (revert h; simp; omega) | (revert h; simp [*]; done)))); clear h))
    refine ⟨[], _, SFits_ok _ ((hG.rh _).rh _) (mkSt dn tn cl bl) l1 p _ _ _ hgs1 (hR.mono fun a v h => .inl (ro_rh 0 rfl a v h)) (hPD.mono fun a v h => .inl (ro_rh 0 rfl a v h)) (hPS.mono fun a v h => .inl (ro_rh 0 rfl a v h)), ?_⟩
    rw [decide_eq_true hfp]
    rintro _ _ ⟨rfl, rfl⟩
    repeat (first | (refine ⟨fun h => ?_, fun h => ?_⟩; rotate_left 1; (focus (exfalso; (first | (with_reducible (cases h; done)) | (revert h; simp; done) | (revert h; simp; omega) | (revert h; simp [*]; done)))); clear h) | (refine ⟨fun h => ?_, fun h => ?_⟩; (focus (exfalso; (first | (with_reducible (cases h; done)) | (revert h; simp; done) | (revert h; simp; omega) | (revert h; simp [*]; done)))); clear h))
    refine ⟨_, rdOff (o := 0) (n := 6) 3 rfl rfl, rfl, ?_⟩
    repeat (first | (refine ⟨fun h => ?_, fun h => ?_⟩; rotate_left 1; (focus (exfalso; (first | (with_reducible (cases h; done)) | (revert h; simp; done) | (revert h; simp; omega) | (revert h; simp [*]; done)))); clear h) | (refine ⟨fun h => ?_, fun h => ?_⟩; (focus (exfalso; (first | (with_reducible (cases h; done)) | (revert h; simp; done) | (revert h; simp; omega) | (revert h; simp [*]; done)))); clear h))
    refine ⟨by omega, by omega, a, rfl, ?_⟩
    repeat (first | (refine ⟨fun h => ?_, fun h => ?_⟩; rotate_left 1; (focus (exfalso; (first | (with_reducible (cases h; done)) | (revert h; simp; done) | (revert h; simp; omega) | (revert h; simp [*]; done)))); clear h) | (refine ⟨fun h => ?_, fun h => ?_⟩; (focus (exfalso; (first | (with_reducible (cases h; done)) | (revert h; simp; done) | (revert h; simp; omega) | (revert h; simp [*]; done)))); clear h))
    refine ⟨_, fun j u h => ro_rh 0 rfl _ _ (rdn hra j u h), rfl, ?_⟩
    repeat (first | (refine ⟨fun h => ?_, fun h => ?_⟩; rotate_left 1; (focus (exfalso; (first | (with_reducible (cases h; done)) | (revert h; simp; done) | (revert h; simp; omega) | (revert h; simp [*]; done)))); clear h) | (refine ⟨fun h => ?_, fun h => ?_⟩; (focus (exfalso; (first | (with_reducible (cases h; done)) | (revert h; simp; done) | (revert h; simp; omega) | (revert h; simp [*]; done)))); clear h))
    refine ⟨[], _, SFits_ok _ ((hG.rh _).rh _) (mkSt dn tn cl bl) l2 p _ _ _ hgs2 (hR2.mono fun a v h => .inl (ro_rh 2 rfl a v h)) (hPD.mono fun a v h => .inl (ro_rh 0 rfl a v h)) (hPS.mono fun a v h => .inl (ro_rh 0 rfl a v h)), ?_⟩
    rw [decide_eq_true hfp]
    rintro _ _ ⟨rfl, rfl⟩
    repeat (first | (refine ⟨fun h => ?_, fun h => ?_⟩; rotate_left 1; (focus (exfalso; (first | (with_reducible (cases h; done)) | (revert h; simp; done) | (revert h; simp; omega) | (revert h; simp [*]; done)))); clear h) | (refine ⟨fun h => ?_, fun h => ?_⟩; (focus (exfalso; (first | (with_reducible (cases h; done)) | (revert h; simp; done) | (revert h; simp; omega) | (revert h; simp [*]; done)))); clear h))
    (intro z hz; obtain rfl : z = ((i + 1 : Nat) : Int) := (by first | (rw [IntKind.wrap_i64] at hz; omega) | (rw [IntKind.wrap_u64] at hz; omega) | omega); clear hz)
    exact ⟨rfl, i + 1, di, by show tn - (i + 1) < tn - i; omega, ⟨rfl, trivial⟩, Ent.refl _, rfl⟩
  · repeat (first | (refine ⟨fun h => ?_, fun h => ?_⟩; rotate_left 1; (focus (exfalso; (first | (with_reducible (cases h; done)) | (revert h; simp; done) | (revert h; simp; omega) | (revert h; simp [*]; done)))); clear h) | (refine ⟨fun h => ?_, fun h => ?_⟩; (focus (exfalso; (first | (with_reducible (cases h; done)) | (revert h; simp; done) | (revert h; simp; omega) | (revert h; simp [*]; done)))); clear h))
    exact ⟨_, Ent.nil _, rfl⟩

end Go.Proofs.YtgnmbgbiajgpeaaDoor
