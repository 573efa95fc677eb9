/-
  Contracts: Latest of a log; the iterator that it ranges over.
-/
import Derived.Test.YtbgfnofjnbpdgaaDoorSnk
import Derived.Test.YtbgfnofjnbpdgaaDoorVco
namespace Go.Proofs.YtbgfnofjnbpdgaaDoor
open Go Go.RowKit
set_option linter.unusedVariables false

def rcAt (l : List Rec) (i : Nat) : Rec := l.getD i ⟨Snap.zero, false, false⟩
theorem rcAt_get {l : List Rec} {i : Nat} (h : i < l.length) : l[i]? = some (rcAt l i) := by
  unfold rcAt
  rw [List.getD_eq_getElem?_getD, List.getElem?_eq_getElem h]; rfl
def bwd (n k : Nat) : List Nat := ((List.range n).drop k).reverse
theorem bwd_top (n : Nat) : bwd n n = [] := by simp [bwd]
theorem bwd_step {n k : Nat} (h : k < n) : bwd n (k + 1) ++ [k] = bwd n k := by
  unfold bwd
  rw [List.drop_eq_getElem_cons (i := k) (by simpa using h)]; simp
theorem bwd_pre (n k : Nat) : bwd n k <+: bwd n 0 := by
  unfold bwd
  rw [List.drop_zero]; exact List.reverse_prefix.2 (List.drop_suffix _ _)
theorem bwd_len (n k : Nat) : (bwd n k).length = n - k := by simp [bwd]

theorem back_seq (R : Rd) {gb : Nat} {A : Option Addr} {cap : Nat} {l : List Rec} (hb : R ⟨gb, 0, .none⟩ (.slice A l.length cap)) (hs : SlR R 12 (.slice A l.length cap) l.length (recs l)) (hn : l.length ≤ 1000000) :
    ∀ w, RSat R w → SeqStopsK Fence.wide 3 Tryd.prog 76 [Value.pointer (some ⟨gb, 0, .none⟩)].toArray (fun x : Nat => [Value.int .i64 (x : Int), .agg ⟨(rcAt l x).cells⟩].toArray) (fun A B => RSat R A → RSat R B) (fun ys => ys = bwd l.length 0) (fun pre => pre <+: bwd l.length 0) (bwd l.length 0).length w := by
  refine seq_of_it (enc := fun x : Nat => [Value.int .i64 (x : Int), .agg ⟨(rcAt l x).cells⟩]) tabOk Tryd.func76 rfl rfl (Nat.le_of_ble_eq_true rfl) ?_
  intro lp
  refine ⟨rfl, _, hb, rfl, rfl, ?_⟩
  (intro z hz; obtain rfl := wr_i64 hz (by omega) (by omega); clear hz)
  refine ⟨rfl, ?_⟩
  refine ⟨[none, none, none, some 3, none, none, none, some 7, some 8, some 9, some 10, some 11, some 12, some 13, some 14, some 15, some 16, some 17, some 18], [3], Nat, fun k => k ≤ l.length, fun k => [.int .i64 ((k : Int) - 1)], fun k => bwd l.length k, fun k => k, l.length, rfl, Nat.le_refl _, ⟨rfl, trivial⟩, (bwd_top _).symm, ?_⟩
  intro k hk js
  refine ⟨rfl, rfl, ?_⟩
  refine ⟨fun hb0 => ?_, fun hb0 => ?_⟩
  · have hk0 : (0 : Int) ≤ (k : Int) - 1 := of_decide_eq_true hb0
    obtain ⟨i, rfl⟩ : ∃ i, k = i + 1 := ⟨k - 1, by omega⟩
    have hil : i < l.length := by omega
    have hget := rcAt_get hil
    have hii : ((i + 1 : Nat) : Int) - 1 = (i : Int) := by omega
    rw [hii]
    have hstep := bwd_step hil
    have hlen := bwd_len l.length
    have hpre := bwd_pre l.length i
    generalize hx : rcAt l i = x at *
    obtain ⟨a, rfl, hr⟩ := slr_at (c := Rec.cells) (fun _ => rfl) (by omega) hs hget
    refine ⟨rfl, rfl, rfl, _, hb, rfl, rfl, by omega, by omega, a, rfl, rfl, ?_⟩
    refine ⟨x.cells, fun j u hu => rdnS (vs := x.cells) (fun j u hu => hr j u hu) j u hu, rfl, rfl, rfl, rfl, rfl, rfl, i, by show [Value.int .i64 (i : Int), .agg ⟨x.cells⟩] = [.int .i64 (i : Int), .agg ⟨(rcAt l i).cells⟩]; rw [hx], by show (bwd l.length (i + 1)).length < _; rw [hlen, hlen]; omega, ?_, ?_⟩
    · refine ⟨rfl, ?_⟩
      refine ⟨fun h => absurd h (by decide), fun _ => ?_⟩
      refine ⟨rfl, rfl, ?_⟩
      (intro z hz; obtain rfl := wr_i64 hz (by omega) (by omega); clear hz)
      refine ⟨rfl, ?_⟩
      refine ⟨rfl, i, by omega, by show i < i + 1; omega, ⟨rfl, trivial⟩, hstep, rfl⟩
    · refine ⟨rfl, ?_⟩
      refine ⟨fun _ => ?_, fun h => absurd h (by decide)⟩
      refine .inr ⟨rfl, ?_⟩
      show bwd l.length (i + 1) ++ [i] <+: _
      rw [hstep]
      exact hpre
  · have hk0 : ¬ (0 : Int) ≤ (k : Int) - 1 := of_decide_eq_false hb0
    obtain rfl : k = 0 := by omega
    exact .inl ⟨rfl, rfl⟩

end Go.Proofs.YtbgfnofjnbpdgaaDoor
