/-
  Records of snapshots as plain data: when they are valid, their encoding, their sum.
-/
import Derived.Test.YtbgfnofjnbpdgaaDoorSha
import Derived.Test.YtbgfnofjnbpdgaaDoorWmb
namespace Go.Proofs.YtbgfnofjnbpdgaaDoor
open Go Go.RowKit
set_option linter.unusedVariables false

abbrev Str := List UInt8

structure Snap where
  w : Int
  q : Int
  d : Int
  nm : Str
  gn : Int
  sz : Int
  fl : Int
  bt : Int
  pv : Str
  hd : Bool

theorem Snap.ext' {a b : Snap} (h1 : a.w = b.w) (h2 : a.q = b.q) (h3 : a.d = b.d) (h4 : a.nm = b.nm) (h5 : a.gn = b.gn) (h6 : a.sz = b.sz) (h7 : a.fl = b.fl) (h8 : a.bt = b.bt) (h9 : a.pv = b.pv) (h10 : a.hd = b.hd) : a = b := by
  cases a; cases b; simp only at *; subst h1 h2 h3 h4 h5 h6 h7 h8 h9 h10; rfl
instance instDecSnap : DecidableEq Snap := fun a b =>
  decidable_of_iff (a.w = b.w ∧ a.q = b.q ∧ a.d = b.d ∧ a.nm = b.nm ∧ a.gn = b.gn ∧ a.sz = b.sz ∧ a.fl = b.fl ∧ a.bt = b.bt ∧ a.pv = b.pv ∧ a.hd = b.hd)
    ⟨fun ⟨h1, h2, h3, h4, h5, h6, h7, h8, h9, h10⟩ => Snap.ext' h1 h2 h3 h4 h5 h6 h7 h8 h9 h10, fun h => by subst h; exact ⟨rfl, rfl, rfl, rfl, rfl, rfl, rfl, rfl, rfl, rfl⟩⟩

def Snap.cells (s : Snap) : List Value := [.int .i64 s.w, .int .i64 s.q, .int .i64 s.d, .string ⟨⟨s.nm⟩⟩, .int .i64 s.gn, .int .i64 s.sz, .int .i64 s.fl, .int .i64 s.bt, .string ⟨⟨s.pv⟩⟩, .bool s.hd]
theorem Snap.cells_inj {a b : Snap} (h : a.cells = b.cells) : a = b := by
  simp only [Snap.cells, List.cons.injEq, Value.int.injEq, Value.string.injEq, Value.bool.injEq, ByteArray.mk.injEq, Array.mk.injEq, true_and, and_true] at h
  obtain ⟨h1, h2, h3, h4, h5, h6, h7, h8, h9, h10⟩ := h
  exact Snap.ext' h1 h2 h3 h4 h5 h6 h7 h8 h9 h10
theorem Snap.cells_iff {a b : Snap} : a.cells = b.cells ↔ a = b := ⟨Snap.cells_inj, fun h => by rw [h]⟩
def Snap.zero : Snap := ⟨0, 0, 0, [], 0, 0, 0, 0, [], false⟩
def Snap.bare (s : Snap) : Snap := { s with hd := false }
theorem Snap.bare_bare (s : Snap) : s.bare.bare = s.bare := rfl

/-- What every value of the type is. -/
structure Snap.Ok (s : Snap) : Prop where
  w1 : -9223372036854775808 ≤ s.w
  w2 : s.w ≤ 9223372036854775807
  q1 : -9223372036854775808 ≤ s.q
  q2 : s.q ≤ 9223372036854775807
  d1 : -9223372036854775808 ≤ s.d
  d2 : s.d ≤ 9223372036854775807
  nm : s.nm.length ≤ 9223372036854775807
  gn1 : -9223372036854775808 ≤ s.gn
  gn2 : s.gn ≤ 9223372036854775807
  sz1 : -9223372036854775808 ≤ s.sz
  sz2 : s.sz ≤ 9223372036854775807
  fl1 : -9223372036854775808 ≤ s.fl
  fl2 : s.fl ≤ 9223372036854775807
  bt1 : -9223372036854775808 ≤ s.bt
  bt2 : s.bt ≤ 9223372036854775807
  pv : s.pv.length ≤ 9223372036854775807

def inB (n lo hi : Int) : Bool := decide (lo ≤ n) && decide (n ≤ hi)
theorem inB_iff {n lo hi : Int} : inB n lo hi = true ↔ lo ≤ n ∧ n ≤ hi := by simp [inB]
def validB (s : Snap) : Bool :=
  inB s.w 0 11 && (inB s.q 1 1099511627776 && (inB s.d 0 999999 && (decide (s.nm.length = 32) && (inB s.gn 0 1099511627776 && (inB s.sz 0 65536 && (inB s.fl 0 4096 && (inB s.bt 0 1099511627776 &&
    (if s.q = 1 then decide (s.pv = []) else decide (s.pv.length = 32)))))))))

structure Valid (s : Snap) : Prop where
  w : 0 ≤ s.w ∧ s.w ≤ 11
  q : 1 ≤ s.q ∧ s.q ≤ 1099511627776
  d : 0 ≤ s.d ∧ s.d ≤ 999999
  nm : s.nm.length = 32
  gn : 0 ≤ s.gn ∧ s.gn ≤ 1099511627776
  sz : 0 ≤ s.sz ∧ s.sz ≤ 65536
  fl : 0 ≤ s.fl ∧ s.fl ≤ 4096
  bt : 0 ≤ s.bt ∧ s.bt ≤ 1099511627776
  p1 : s.q = 1 → s.pv = []
  p2 : s.q ≠ 1 → s.pv.length = 32

theorem validB_iff {s : Snap} : validB s = true ↔ Valid s := by
  simp only [validB, Bool.and_eq_true, inB_iff, decide_eq_true_eq]
  constructor
  · rintro ⟨h1, h2, h3, h4, h5, h6, h7, h8, h9⟩
    refine ⟨h1, h2, h3, h4, h5, h6, h7, h8, fun h => ?_, fun h => ?_⟩
    · rw [if_pos h] at h9; exact of_decide_eq_true h9
    · rw [if_neg h] at h9; exact of_decide_eq_true h9
  · rintro ⟨h1, h2, h3, h4, h5, h6, h7, h8, h9, h10⟩
    refine ⟨h1, h2, h3, h4, h5, h6, h7, h8, ?_⟩
    by_cases h : s.q = 1
    · rw [if_pos h]; exact decide_eq_true (h9 h)
    · rw [if_neg h]; exact decide_eq_true (h10 h)
theorem Valid.bare {s : Snap} (h : Valid s) : Valid s.bare := ⟨h.w, h.q, h.d, h.nm, h.gn, h.sz, h.fl, h.bt, h.p1, h.p2⟩
theorem Valid.of_bare {s : Snap} (h : Valid s.bare) : Valid s := ⟨h.w, h.q, h.d, h.nm, h.gn, h.sz, h.fl, h.bt, h.p1, h.p2⟩
theorem Valid.hold {s : Snap} (h : Valid s) (b : Bool) : Valid { s with hd := b } := ⟨h.w, h.q, h.d, h.nm, h.gn, h.sz, h.fl, h.bt, h.p1, h.p2⟩
theorem validB_hold (s : Snap) (b : Bool) : validB { s with hd := b } = validB s := rfl
theorem validB_bare (s : Snap) : validB s.bare = validB s := rfl
theorem Valid.ok {s : Snap} (h : Valid s) : s.Ok := by
  obtain ⟨h1, h2, h3, h4, h5, h6, h7, h8, h9, h10⟩ := h
  refine ⟨by omega, by omega, by omega, by omega, by omega, by omega, by omega, by omega, by omega, by omega, by omega, by omega, by omega, by omega, by omega, ?_⟩
  by_cases h : s.q = 1
  · rw [h9 h]; simp
  · have := h10 h; omega
theorem Valid.pv_le {s : Snap} (h : Valid s) : s.pv.length ≤ 32 := by
  by_cases h1 : s.q = 1
  · rw [h.p1 h1]; simp
  · have := h.p2 h1; omega

/-- The encoding of a record, without its hold. -/
def encP (s : Snap) : Str := num s.w.toNat ++ (num s.q.toNat ++ (num s.d.toNat ++ (s.nm ++ (num s.gn.toNat ++ (num s.sz.toNat ++ (num s.fl.toNat ++ (num s.bt.toNat ++ (num s.pv.length ++ s.pv))))))))
def sumP (s : Snap) : Str := sha (encP s)
theorem encP_bare (s : Snap) : encP s.bare = encP s := rfl
theorem sumP_bare (s : Snap) : sumP s.bare = sumP s := rfl
theorem encP_hold (s : Snap) (b : Bool) : encP { s with hd := b } = encP s := rfl
theorem sumP_hold (s : Snap) (b : Bool) : sumP { s with hd := b } = sumP s := rfl
theorem sumP_length (s : Snap) : (sumP s).length = 32 := sha_length _
theorem encP_le {s : Snap} (h : Valid s) : (encP s).length ≤ 200 := by
  have hu : ∀ {n : Nat}, n ≤ 18446744073709551615 → (num n).length ≤ 10 := fun h => by rw [length_num]; exact usize_le10 h
  have hp := Valid.pv_le h
  obtain ⟨h1, h2, h3, h4, h5, h6, h7, h8, _, _⟩ := h
  have a1 := hu (n := s.w.toNat) (by omega)
  have a2 := hu (n := s.q.toNat) (by omega)
  have a3 := hu (n := s.d.toNat) (by omega)
  have a4 := hu (n := s.gn.toNat) (by omega)
  have a5 := hu (n := s.sz.toNat) (by omega)
  have a6 := hu (n := s.fl.toNat) (by omega)
  have a7 := hu (n := s.bt.toNat) (by omega)
  have a8 := hu (n := s.pv.length) (by omega)
  simp only [encP, List.length_append]
  omega

theorem encP_inj {a b : Snap} (ha : Valid a) (hb : Valid b) {r t : Str} (h : encP a ++ r = encP b ++ t) : a.bare = b.bare ∧ r = t := by
  have hpa := ha.pv_le
  have hpb := hb.pv_le
  obtain ⟨a1, a2, a3, a4, a5, a6, a7, a8, a9, a10⟩ := ha
  obtain ⟨b1, b2, b3, b4, b5, b6, b7, b8, b9, b10⟩ := hb
  simp only [encP, List.append_assoc] at h
  obtain ⟨e1, h⟩ := num_prefix (by omega) (by omega) h
  obtain ⟨e2, h⟩ := num_prefix (by omega) (by omega) h
  obtain ⟨e3, h⟩ := num_prefix (by omega) (by omega) h
  obtain ⟨e4, h⟩ := List.append_inj h (by omega)
  obtain ⟨e5, h⟩ := num_prefix (by omega) (by omega) h
  obtain ⟨e6, h⟩ := num_prefix (by omega) (by omega) h
  obtain ⟨e7, h⟩ := num_prefix (by omega) (by omega) h
  obtain ⟨e8, h⟩ := num_prefix (by omega) (by omega) h
  obtain ⟨e9, h⟩ := num_prefix (by omega) (by omega) h
  obtain ⟨e10, h⟩ := List.append_inj h e9
  exact ⟨Snap.ext' (by show a.w = b.w; omega) (by show a.q = b.q; omega) (by show a.d = b.d; omega) e4 (by show a.gn = b.gn; omega) (by show a.sz = b.sz; omega) (by show a.fl = b.fl; omega) (by show a.bt = b.bt; omega) e10 rfl, h⟩

/-- A record follows the last one of its writer, if there is one. -/
def contB (s : Snap) (last : Option Snap) : Bool :=
  match last with
  | .none => decide (s.q = 1)
  | some l => decide (s.q = l.q + 1) && (decide (l.d ≤ s.d) && decide (s.pv = sumP l))

end Go.Proofs.YtbgfnofjnbpdgaaDoor
