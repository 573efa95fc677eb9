/-
  Contracts: Next of a log; the memory of a log with one writer's row apart.
-/
import Derived.Test.YtbgfnofjnbpdgaaDoorSnf
namespace Go.Proofs.YtbgfnofjnbpdgaaDoor
open Go Go.RowKit
set_option linter.unusedVariables false

set_option maxHeartbeats 1000000 in
theorem Next_ok (R : Rd) (hG : ShaG R) {g r : Nat} {st : List WR} {c : Nat} (hL : LogR R g r st) (w d : Int) (nm : Str) (gn sz fl bt : Int) (hn : (chainOf st w).length ≤ 1000000) (hV : ∀ s, lastC (chainOf st w) = some s → Valid s) :
    Fn Tryd.prog 16 [.pointer (some ⟨g, 0, .none⟩), .int .i64 w, .int .i64 d, .agg ⟨[.string ⟨⟨nm⟩⟩, .int .i64 gn, .int .i64 sz]⟩, .int .i64 fl, .int .i64 bt] [logM r st c] R
      (fun v h => v = .tuple ⟨[.agg ⟨(nextL (lastC (chainOf st w)) w d nm gn sz fl bt).1.cells⟩, .int .i64 (nextL (lastC (chainOf st w)) w d nm gn sz fl bt).2]⟩ ∧ h = [logM r st c]) := by
  refine fn_of_vc mixed tabOk Tryd.func16 rfl (by kernel_rfl) (Nat.le_of_ble_eq_true rfl) ?_
  intro gb
  intro g12
  refine ⟨[.string ⟨⟨nm⟩⟩, .int .i64 gn, .int .i64 sz], rdBlk 1 rfl, rfl, ?_⟩
  intro g14
  refine ⟨rfl, rfl, 3, rfl, rfl, Nat.le_of_ble_eq_true rfl, ?_⟩
  refine ⟨[0], _, last_ok _ (hL.rh _) w hn, ?_⟩
  rintro _ _ ⟨rfl, rfl⟩
  generalize hlv : chainOf st w = l at *
  cases hl : lastC l with
  | none =>
    have hlz : lastV l = Snap.zero := by rw [lastV, hl]; rfl
    rw [hlz]
    intro g15
    refine ⟨rfl, rfl, 4, rfl, rfl, Nat.le_of_ble_eq_true rfl, ?_⟩
    repeat (first | (refine ⟨fun h => ?_, fun h => ?_⟩; rotate_left 1; (focus (exfalso; (first | (with_reducible (cases h; done)) | (revert h; simp; done) | (revert h; simp; omega) | (revert h; simp [*]; done)))); clear h) | (refine ⟨fun h => ?_, fun h => ?_⟩; (focus (exfalso; (first | (with_reducible (cases h; done)) | (revert h; simp; done) | (revert h; simp; omega) | (revert h; simp [*]; done)))); clear h))
    refine ⟨(nextS .none w d nm gn sz fl bt).cells, rdBlk 2 rfl, rfl, ?_⟩
    refine ⟨[], _, valid_ok _ (nextS .none w d nm gn sz fl bt), ?_⟩
    rintro _ _ ⟨rfl, rfl⟩
    cases hv : validB (nextS .none w d nm gn sz fl bt)
    · repeat (first | (refine ⟨fun h => ?_, fun h => ?_⟩; rotate_left 1; (focus (exfalso; (first | (with_reducible (cases h; done)) | (revert h; simp; done) | (revert h; simp; omega) | (revert h; simp [*]; done)))); clear h) | (refine ⟨fun h => ?_, fun h => ?_⟩; (focus (exfalso; (first | (with_reducible (cases h; done)) | (revert h; simp; done) | (revert h; simp; omega) | (revert h; simp [*]; done)))); clear h))
      refine ⟨rfl, rfl, 1, rfl, rfl, Nat.le_of_ble_eq_true rfl, ?_⟩
      refine ⟨Snap.zero.cells, rdBlk 1 rfl, rfl, ?_⟩
      exact ⟨_, (Ent.dropr [_, _, _] [_, _]).trans (Ent.drop [_] [_]), by rw [nextL, hv]; rfl, rfl⟩
    · repeat (first | (refine ⟨fun h => ?_, fun h => ?_⟩; rotate_left 1; (focus (exfalso; (first | (with_reducible (cases h; done)) | (revert h; simp; done) | (revert h; simp; omega) | (revert h; simp [*]; done)))); clear h) | (refine ⟨fun h => ?_, fun h => ?_⟩; (focus (exfalso; (first | (with_reducible (cases h; done)) | (revert h; simp; done) | (revert h; simp; omega) | (revert h; simp [*]; done)))); clear h))
      refine ⟨(nextS .none w d nm gn sz fl bt).cells, rdBlk 2 rfl, rfl, ?_⟩
      refine ⟨rfl, rfl, 1, rfl, rfl, Nat.le_of_ble_eq_true rfl, ?_⟩
      refine ⟨(nextS .none w d nm gn sz fl bt).cells, rdBlk 1 rfl, rfl, ?_⟩
      exact ⟨_, (Ent.dropr [_, _, _] [_, _]).trans (Ent.drop [_] [_]), by rw [nextL, hv]; rfl, rfl⟩
  | some p =>
    have hlz : lastV l = p := by rw [lastV, hl]; rfl
    have hp := hV p hl
    have hpq := hp.q
    rw [hlz]
    intro g15
    refine ⟨rfl, rfl, 4, rfl, rfl, Nat.le_of_ble_eq_true rfl, ?_⟩
    repeat (first | (refine ⟨fun h => ?_, fun h => ?_⟩; rotate_left 1; (focus (exfalso; (first | (with_reducible (cases h; done)) | (revert h; simp; done) | (revert h; simp; omega) | (revert h; simp [*]; done)))); clear h) | (refine ⟨fun h => ?_, fun h => ?_⟩; (focus (exfalso; (first | (with_reducible (cases h; done)) | (revert h; simp; done) | (revert h; simp; omega) | (revert h; simp [*]; done)))); clear h))
    refine ⟨_, ld 4 rfl rfl, ?_⟩
    (intro z hz; obtain rfl := wr_i64 hz (by omega) (by omega); clear hz)
    refine ⟨rfl, rfl, 2, rfl, rfl, Nat.le_of_ble_eq_true rfl, ?_⟩
    refine ⟨p.cells, rdBlk 4 rfl, rfl, ?_⟩
    refine ⟨[], _, sum_ok _ (hG.rh _) p hp, ?_⟩
    rintro _ _ ⟨rfl, rfl⟩
    refine ⟨rfl, rfl, 2, rfl, rfl, Nat.le_of_ble_eq_true rfl, ?_⟩
    refine ⟨(nextS (some p) w d nm gn sz fl bt).cells, rdBlk 2 rfl, rfl, ?_⟩
    refine ⟨[], _, valid_ok _ (nextS (some p) w d nm gn sz fl bt), ?_⟩
    rintro _ _ ⟨rfl, rfl⟩
    cases hv : validB (nextS (some p) w d nm gn sz fl bt)
    · repeat (first | (refine ⟨fun h => ?_, fun h => ?_⟩; rotate_left 1; (focus (exfalso; (first | (with_reducible (cases h; done)) | (revert h; simp; done) | (revert h; simp; omega) | (revert h; simp [*]; done)))); clear h) | (refine ⟨fun h => ?_, fun h => ?_⟩; (focus (exfalso; (first | (with_reducible (cases h; done)) | (revert h; simp; done) | (revert h; simp; omega) | (revert h; simp [*]; done)))); clear h))
      refine ⟨rfl, rfl, 1, rfl, rfl, Nat.le_of_ble_eq_true rfl, ?_⟩
      refine ⟨Snap.zero.cells, rdBlk 1 rfl, rfl, ?_⟩
      exact ⟨_, (Ent.dropr [_, _, _] [_, _]).trans (Ent.drop [_] [_]), by rw [nextL, hv]; rfl, rfl⟩
    repeat (first | (refine ⟨fun h => ?_, fun h => ?_⟩; rotate_left 1; (focus (exfalso; (first | (with_reducible (cases h; done)) | (revert h; simp; done) | (revert h; simp; omega) | (revert h; simp [*]; done)))); clear h) | (refine ⟨fun h => ?_, fun h => ?_⟩; (focus (exfalso; (first | (with_reducible (cases h; done)) | (revert h; simp; done) | (revert h; simp; omega) | (revert h; simp [*]; done)))); clear h))
    refine ⟨_, ld 4 rfl rfl, ?_⟩
    by_cases hd : d < p.d
    · repeat (first | (refine ⟨fun h => ?_, fun h => ?_⟩; rotate_left 1; (focus (exfalso; (first | (with_reducible (cases h; done)) | (revert h; simp; done) | (revert h; simp; omega) | (revert h; simp [*]; done)))); clear h) | (refine ⟨fun h => ?_, fun h => ?_⟩; (focus (exfalso; (first | (with_reducible (cases h; done)) | (revert h; simp; done) | (revert h; simp; omega) | (revert h; simp [*]; done)))); clear h))
      refine ⟨rfl, rfl, 1, rfl, rfl, Nat.le_of_ble_eq_true rfl, ?_⟩
      refine ⟨Snap.zero.cells, rdBlk 1 rfl, rfl, ?_⟩
      refine ⟨_, (Ent.dropr [_, _, _] [_, _]).trans (Ent.drop [_] [_]), ?_, rfl⟩
      have e : nextL (some p) w d nm gn sz fl bt = (Snap.zero, 13) := by
        rw [nextL, if_pos hv]; exact if_pos hd
      rw [e]; rfl
    · repeat (first | (refine ⟨fun h => ?_, fun h => ?_⟩; rotate_left 1; (focus (exfalso; (first | (with_reducible (cases h; done)) | (revert h; simp; done) | (revert h; simp; omega) | (revert h; simp [*]; done)))); clear h) | (refine ⟨fun h => ?_, fun h => ?_⟩; (focus (exfalso; (first | (with_reducible (cases h; done)) | (revert h; simp; done) | (revert h; simp; omega) | (revert h; simp [*]; done)))); clear h))
      refine ⟨(nextS (some p) w d nm gn sz fl bt).cells, rdBlk 2 rfl, rfl, ?_⟩
      refine ⟨rfl, rfl, 1, rfl, rfl, Nat.le_of_ble_eq_true rfl, ?_⟩
      refine ⟨(nextS (some p) w d nm gn sz fl bt).cells, rdBlk 1 rfl, rfl, ?_⟩
      refine ⟨_, (Ent.dropr [_, _, _] [_, _]).trans (Ent.drop [_] [_]), ?_, rfl⟩
      have e : nextL (some p) w d nm gn sz fl bt = (nextS (some p) w d nm gn sz fl bt, 0) := by
        rw [nextL, if_pos hv]; exact if_neg hd
      rw [e]; rfl

/-! ### one writer's row apart -/
def logS (g r : Nat) (a : List WR) (x : WR) (b : List WR) (c : Nat) : Hp := [.blk g 77 [.map (some r)], logM r (a ++ x :: b) c, x.row.ha, .rows (rowsOf (a ++ b))]
theorem rowsOf_mid (a b : List WR) (x : WR) : rowsOf (a ++ x :: b) = rowsOf a ++ x.row :: rowsOf b := by simp [rowsOf]
theorem rowsOf_app (a b : List WR) : rowsOf (a ++ b) = rowsOf a ++ rowsOf b := by simp [rowsOf]
theorem logS_out (g r : Nat) (a : List WR) (x : WR) (b : List WR) (c : Nat) : Ent (logH g r (a ++ x :: b) c) (logS g r a x b c) := by
  unfold logH logS
  rw [rowsOf_mid, rowsOf_app]
  exact Ent.app (Ent.refl [_, _]) (Ent.rows_out (rowsOf a) (rowsOf b) x.row)
theorem logS_in (g r : Nat) (a : List WR) (x : WR) (b : List WR) (c : Nat) : Ent (logS g r a x b c) (logH g r (a ++ x :: b) c) := by
  unfold logH logS
  rw [rowsOf_mid, rowsOf_app]
  exact Ent.app (Ent.refl [_, _]) (Ent.rows_in (rowsOf a) (rowsOf b) x.row)

theorem logR_split {R : Rd} {h : Hp} (i j k : Nat) {g r : Nat} {t : TypeId} {a b : List WR} {x : WR} {c : Nat} (hok : LogOk (a ++ x :: b) c) (hi : h[i]? = some (.blk g t [.map (some r)])) (hj : h[j]? = some x.row.ha) (hk : h[k]? = some (.rows (rowsOf (a ++ b)))) : LogR (RH R h) g r (a ++ x :: b) := by
  refine ⟨ld i hi rfl, fun y hy => ⟨recs_length _, y.A, y.cap, rfl, fun m u hu => ?_⟩⟩
  have hm := (List.getElem?_eq_some_iff.1 hu).1
  have hl := recs_length y.l
  obtain ⟨q, hq⟩ := growA (hok.gr y hy) (by omega)
  refine ⟨⟨q, 0, .none⟩, hq, ?_⟩
  rw [add_zero_addr]
  by_cases hyx : y = x
  · subst hyx
    refine .inr ⟨_, List.mem_of_getElem? hj, ?_⟩
    show rowCell y.A (recs y.l) _ _
    rw [hq]
    exact ⟨rfl, rfl, hu⟩
  · have hy2 : y ∈ a ++ b := by
      rcases List.mem_append.1 hy with hy | hy
      · exact List.mem_append_left _ hy
      · rcases List.mem_cons.1 hy with hy | hy
        · exact absurd hy hyx
        · exact List.mem_append_right _ hy
    refine ldrows k hk (List.mem_map.2 ⟨y, hy2, rfl⟩) ?_
    show rowCell y.A (recs y.l) _ _
    rw [hq]
    exact ⟨rfl, rfl, hu⟩

/-- The cells of a record in the row apart. -/
theorem rec_own {R : Rd} {h : Hp} (j : Nat) {x : WR} {q : Nat} (hA : x.A = some ⟨q, 0, .none⟩) (hj : h[j]? = some x.row.ha) {i : Nat} {y : Rec} (hy : x.l[i]? = some y) : ∀ k u, y.cells[k]? = some u → RH R h ((⟨q, 0, .none⟩ : Addr).add (i * 12 + k)) u := by
  intro k u hu
  rw [add_zero_addr]
  refine .inr ⟨_, List.mem_of_getElem? hj, ?_⟩
  show rowCell x.A (recs x.l) _ _
  rw [hA]
  exact ⟨rfl, rfl, flatAt (c := Rec.cells) (fun _ _ => rfl) hy hu⟩

theorem upd_mid {a b : List WR} {x : WR} {n : Int} {A : Option Addr} {m cap : Nat} {l : List Rec} {c : Nat} {es' : List MapEntry} {c' : Nat} (hx : x.w = n) (h : ∀ y ∈ a, y.w ≠ n) (hm : m = l.length) (hu : updE (.int .i64 n) (.slice A m cap) (entsOf (a ++ x :: b)) c es' c') :
    es' = entsOf (a ++ { x with A := A, cap := cap, l := l } :: b) ∧ c' = c := by
  subst hm
  rcases hu with ⟨j, v, hf, he, hc⟩ | ⟨hf, _⟩
  · rw [findE_mid hx h] at hf
    simp only [Option.some.injEq, Prod.mk.injEq, Nat.zero_add] at hf
    rw [he, ← hf.1, setE_mid hx]; exact ⟨rfl, hc⟩
  · rw [findE_mid hx h] at hf; cases hf
theorem upd_new {st : List WR} {n : Int} {A : Option Addr} {m cap : Nat} {l : List Rec} {c : Nat} {es' : List MapEntry} {c' : Nat} (h : ∀ y ∈ st, y.w ≠ n) (hm : m = l.length) (hu : updE (.int .i64 n) (.slice A m cap) (entsOf st) c es' c') :
    es' = entsOf (st ++ [⟨n, A, cap, c, l⟩]) ∧ c' = c + 1 := by
  subst hm
  rcases hu with ⟨j, v, hf, _⟩ | ⟨_, he, hc⟩
  · rw [findE_none h] at hf; cases hf
  · rw [he]; exact ⟨by simp [entsOf, WR.entry], hc⟩
theorem LogOk.set {a b : List WR} {x : WR} {c : Nat} (h : LogOk (a ++ x :: b) c) {A : Option Addr} {cap : Nat} {l : List Rec} (hg : grow l.length A) : LogOk (a ++ { x with A := A, cap := cap, l := l } :: b) c := by
  obtain ⟨h1, h2, h3, h4, h5⟩ := h
  refine ⟨by simpa using h1, fun y hy => ?_, fun y hy => ?_, by simpa using h4, fun y hy => ?_⟩
  all_goals
    rcases List.mem_append.1 hy with hy | hy
    · first | exact h2 y (List.mem_append_left _ hy) | exact h3 y (List.mem_append_left _ hy) | exact h5 y (List.mem_append_left _ hy)
    · rcases List.mem_cons.1 hy with rfl | hy
      · first | exact h2 x (by simp) | exact h3 x (by simp) | exact hg
      · first | exact h2 y (by simp [hy]) | exact h3 y (by simp [hy]) | exact h5 y (by simp [hy])
theorem LogOk.new {st : List WR} {c : Nat} (h : LogOk st c) {n : Int} (hn : 0 ≤ n ∧ n ≤ 11) (hx : ∀ y ∈ st, y.w ≠ n) {A : Option Addr} {cap : Nat} {l : List Rec} (hg : grow l.length A) : LogOk (st ++ [⟨n, A, cap, c, l⟩]) (c + 1) := by
  obtain ⟨h1, h2, h3, h4, h5⟩ := h
  refine ⟨?_, fun y hy => ?_, fun y hy => ?_, ?_, fun y hy => ?_⟩
  · rw [List.map_append, List.nodup_append]
    refine ⟨h1, by simp, fun u hu v hv e => ?_⟩
    obtain ⟨y, hy, rfl⟩ := List.mem_map.1 hu
    simp at hv
    exact hx y hy (by rw [e, hv])
  · rcases List.mem_append.1 hy with hy | hy
    · exact h2 y hy
    · rw [List.mem_singleton.1 hy]; exact hn
  · rcases List.mem_append.1 hy with hy | hy
    · have := h3 y hy; omega
    · rw [List.mem_singleton.1 hy]; exact Nat.lt_succ_self _
  · rw [List.map_append, List.nodup_append]
    refine ⟨h4, by simp, fun u hu v hv e => ?_⟩
    obtain ⟨y, hy, rfl⟩ := List.mem_map.1 hu
    simp at hv
    have := h3 y hy
    omega
  · rcases List.mem_append.1 hy with hy | hy
    · exact h5 y hy
    · rw [List.mem_singleton.1 hy]; exact hg

end Go.Proofs.YtbgfnofjnbpdgaaDoor
