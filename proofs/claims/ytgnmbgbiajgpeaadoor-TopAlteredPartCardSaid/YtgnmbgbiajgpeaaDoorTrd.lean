/-
  Transfer: contracts of the encoding and the decoding of heads and parts.
-/
import Derived.Test.YtgnmbgbiajgpeaaDoorTrc
namespace Go.Proofs.YtgnmbgbiajgpeaaDoor
open Go Go.RowKit
set_option linter.unusedVariables false

/-- Bytes and an error. -/
def OutB (b : Str) (e : Int) (v : Value) (h : Hp) : Prop := ∃ A cap, v = .tuple ⟨[.slice A b.length cap, .int .i64 e]⟩ ∧ h = [.row A b.length cap 5 1 (BV b) (0, 0)] ∧ grow b.length A ∧ b.length ≤ cap
def encHo (x : Hd) : Str := if WfH x then encH x else []
def encPo (x : Pt) : Str := if WfP x then encP x else []
/-! ### decoding -/
def Hd0 : Hd := ⟨[], 0, 0, []⟩
def Pt0 : Pt := ⟨[], 0, 0, [], []⟩
theorem yV_le (m : Int) (d : Str) (s : RS) : (yV m d s).length ≤ d.length := by
  unfold yV
  split
  · refine Nat.le_trans ?_ (show (d.drop s.1).length ≤ d.length by rw [List.length_drop]; omega)
    unfold blkD
    have hle : (limD m (d.drop s.1)).2.2.length ≤ (d.drop s.1).length := by
      unfold limD
      cases hd : dec (d.drop s.1) with
      | none => exact Nat.zero_le _
      | some p =>
        obtain ⟨n, r⟩ := p
        have e := (dec_iff.1 hd).1
        show (if max m 0 < (n : Int) then ((2 : Int), 0, []) else (0, n, r)).2.2.length ≤ _
        by_cases hm : max m 0 < (n : Int)
        · rw [if_pos hm]; exact Nat.zero_le _
        · rw [if_neg hm, e, List.length_append]; show r.length ≤ _; omega
    split
    · split
      · exact Nat.zero_le _
      · show (List.take _ _).length ≤ _; rw [List.length_take]; omega
    · exact Nat.zero_le _
  · exact Nat.zero_le _

/-- A head out of bytes, or ErrSyntax. -/
def DecH (d : Str) (v : Value) (h : Hp) : Prop :=
  (¬ okH d ∧ v = .tuple ⟨[.agg ⟨hdC Hd0 (.slice .none 0 0)⟩, .int .i64 3]⟩ ∧ h = []) ∨
  (okH d ∧ ∃ A cap, v = .tuple ⟨[.agg ⟨hdC (hV d s00) (.slice A (hV d s00).sums.length cap)⟩, .int .i64 0]⟩ ∧ h = [.row A (hV d s00).sums.length cap 9 1 (SV (hV d s00).sums) (0, 0)] ∧ grow (hV d s00).sums.length A ∧ (hV d s00).sums.length ≤ cap)
theorem hV_sums (d : Str) (s : RS) : (hV d s).sums.length = cV 16 d (hs3 d s) := ssV_length _ _ _
theorem pV_path (d : Str) (s : RS) : (pV d s).path.length = cV 16 d (ps4 d s) := ssV_length _ _ _

/-- A part out of bytes, or ErrSyntax. -/
def DecP (d : Str) (v : Value) (h : Hp) : Prop :=
  (¬ okP d ∧ v = .tuple ⟨[.agg ⟨ptC Pt0 (.slice .none 0 0) (.slice .none 0 0)⟩, .int .i64 3]⟩ ∧ h = []) ∨
  (okP d ∧ ∃ A cap B cb, v = .tuple ⟨[.agg ⟨ptC (pV d s00) (.slice A (pV d s00).dt.length cap) (.slice B (pV d s00).path.length cb)⟩, .int .i64 0]⟩ ∧
    h = [.row A (pV d s00).dt.length cap 5 1 (BV (pV d s00).dt) (0, 0), .row B (pV d s00).path.length cb 9 1 (SV (pV d s00).path) (0, 0)] ∧
    grow (pV d s00).dt.length A ∧ (pV d s00).dt.length ≤ cap ∧ grow (pV d s00).path.length B ∧ (pV d s00).path.length ≤ cb)
end Go.Proofs.YtgnmbgbiajgpeaaDoor
