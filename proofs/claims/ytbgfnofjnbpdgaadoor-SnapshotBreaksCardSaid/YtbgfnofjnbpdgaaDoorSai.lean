/-
  The law SnapshotBreaks.
-/
import Derived.Test.YtbgfnofjnbpdgaaDoorSag
import Derived.Test.YtbgfnofjnbpdgaaDoorSah
namespace Go.Proofs.YtbgfnofjnbpdgaaDoor
open Go Go.RowKit
set_option linter.unusedVariables false

theorem setRange_skip : ∀ (a b : List Value) (off : Nat) (vs : List Value), setRange (a ++ b) (a.length + off) vs = a ++ setRange b off vs
  | [], b, off, vs => by rw [List.length_nil, Nat.zero_add]; rfl
  | x :: a, b, off, vs => by
    rw [List.length_cons, show a.length + 1 + off = (a.length + off) + 1 by omega]
    show setRange (x :: (a ++ b)) (a.length + off + 1) vs = _
    rw [setRange_cons, setRange_skip a b off vs]; rfl
theorem setRange_front : ∀ (vs a b : List Value), a.length = vs.length → setRange (a ++ b) 0 vs = vs ++ b
  | [], a, b, h => by
    have : a = [] := List.eq_nil_of_length_eq_zero h
    subst this; rfl
  | v :: vs, [], b, h => by cases h
  | v :: vs, x :: a, b, h => by
    show setRange (v :: (a ++ b)) (0 + 1) vs = _
    rw [setRange_cons, setRange_front vs a b (by simpa using h)]; rfl
theorem snaps_set : ∀ {l : List Snap} {i : Nat} (y : Snap), i < l.length → setRange (snaps l) (i * 10) y.cells = snaps (l.set i y)
  | [], i, y, h => by cases h
  | x :: l, 0, y, h => by
    show setRange (x.cells ++ snaps l) (0 * 10) y.cells = y.cells ++ snaps l
    rw [Nat.zero_mul]
    exact setRange_front _ _ _ rfl
  | x :: l, i + 1, y, h => by
    show setRange (x.cells ++ snaps l) ((i + 1) * 10) y.cells = x.cells ++ snaps (l.set i y)
    rw [← snaps_set y (by simpa using h), show (i + 1) * 10 = x.cells.length + i * 10 by show (i + 1) * 10 = 10 + i * 10; omega, setRange_skip]
theorem snaps_one (l : List Snap) : allOne (snaps l) = true := by
  refine allOne_of fun u hu => ?_
  obtain ⟨m, _, hm⟩ := List.mem_flatMap.1 hu
  simp only [Snap.cells, List.mem_cons, List.not_mem_nil, or_false] at hm
  rcases hm with rfl | rfl | rfl | rfl | rfl | rfl | rfl | rfl | rfl | rfl <;> rfl
theorem addA_sn (qa i : Nat) : addA (⟨qa, 0, .none⟩ : Addr) (i * 10) = ⟨qa, i * 10, .none⟩ := by
  cases i * 10 with
  | zero => rfl
  | succ n => show (⟨qa, 0 + (n + 1), .none⟩ : Addr) = _; rw [Nat.zero_add]

theorem sn_own {R : Rd} {h : Hp} (j : Nat) {A : Option Addr} {q n cap : Nat} {e : TypeId} {fz : Nat × Nat} {l : List Snap} (hA : A = some ⟨q, 0, .none⟩) (hj : h[j]? = some (.row A n cap e 10 (snaps l) fz)) {i : Nat} {y : Snap} (hy : l[i]? = some y) : ∀ k u, y.cells[k]? = some u → RH R h ((⟨q, 0, .none⟩ : Addr).add (i * 10 + k)) u := by
  intro k u hu
  rw [add_zero_addr]
  refine .inr ⟨_, List.mem_of_getElem? hj, ?_⟩
  show rowCell A (snaps l) _ _
  rw [hA]
  exact ⟨rfl, rfl, flatAt (c := Snap.cells) (fun _ _ => rfl) hy hu⟩

set_option maxRecDepth 100000 in
set_option maxHeartbeats 8000000 in
theorem SnapshotBreaks_law (R : Rd) (hG : ShaG R) (v0 v1 v2 v3 : Value) (s0 : SeenV R (.sl 15 OpShp) v0) (s1 : SeenV R (.int .i64) v1) (s2 : SeenV R (.int .i64) v2) (s3 : SeenV R SnShp v3) :
    Fn Tryd.prog 5 [v0, v1, v2, v3] [] R (fun v _ => v = .bool true) := by
  obtain ⟨l, A, cap, hok, rfl, hs⟩ := s0.sops
  obtain ⟨w, rfl, -, -⟩ := s1.i64
  obtain ⟨i, rfl, -, -⟩ := s2.i64
  obtain ⟨o, hoO, rfl⟩ := s3.snap
  have hML := maxLen_eq
  refine fn_of_vc mixed tabOk Tryd.func5 rfl (by kernel_rfl) (Nat.le_of_ble_eq_true rfl) ?_
  intro g7
  refine ⟨[], _, awake26_ok _ (hG.rh _), ?_⟩
  rintro _ _ ⟨rfl, rfl⟩
  repeat (first | (refine ⟨fun h => ?_, fun h => ?_⟩; rotate_left 1; (focus (exfalso; (first | (with_reducible (cases h; done)) | (revert h; simp; done) | (revert h; simp; omega) | (revert h; simp [*]; done)))); clear h) | (refine ⟨fun h => ?_, fun h => ?_⟩; (focus (exfalso; (first | (with_reducible (cases h; done)) | (revert h; simp; done) | (revert h; simp; omega) | (revert h; simp [*]; done)))); clear h))
  by_cases hlen : (30 : Int) < l.length
  · repeat (first | (refine ⟨fun h => ?_, fun h => ?_⟩; rotate_left 1; (focus (exfalso; (first | (with_reducible (cases h; done)) | (revert h; simp; done) | (revert h; simp; omega) | (revert h; simp [*]; done)))); clear h) | (refine ⟨fun h => ?_, fun h => ?_⟩; (focus (exfalso; (first | (with_reducible (cases h; done)) | (revert h; simp; done) | (revert h; simp; omega) | (revert h; simp [*]; done)))); clear h))
    exact ⟨_, Ent.nil _, rfl⟩
  repeat (first | (refine ⟨fun h => ?_, fun h => ?_⟩; rotate_left 1; (focus (exfalso; (first | (with_reducible (cases h; done)) | (revert h; simp; done) | (revert h; simp; omega) | (revert h; simp [*]; done)))); clear h) | (refine ⟨fun h => ?_, fun h => ?_⟩; (focus (exfalso; (first | (with_reducible (cases h; done)) | (revert h; simp; done) | (revert h; simp; omega) | (revert h; simp [*]; done)))); clear h))
  obtain ⟨hC, hn⟩ := built_good l
  refine ⟨[], _, built_ok _ (hG.rh _) (hs.rh _) (by omega) hok, ?_⟩
  generalize runC C00 l = C at *
  have hlw := len_le_count hC.out w
  rintro _ _ ⟨g, r, st, c, A1, cap1, rfl, hlok, hch, hg1, rfl⟩
  refine ⟨[1, 1, 1], _, Of_okL _ ⟨r, st, c, hlok, hch, rfl⟩ hC (by omega) w, ?_⟩
  clear hlok hch
  have hver := good_verP hC w
  have hbrk := fun (i : Nat) (x : Rec) (hx : (C w)[i]? = some x) => broken hC w hx o
  have hvalid : ∀ (i : Nat) (x : Rec), (C w)[i]? = some x → validB x.shown = true := fun i x hx => validB_iff.2 ((hC.rcd _ _ _ hx).2.2.2.hold x.he)
  have hml : (C w).length = ((C w).map Rec.shown).length := (List.length_map _).symm
  rw [hml] at hlw ⊢
  rintro _ _ ⟨A2, cap2, _, hg2, rfl, ⟨r, st, c, hlok, hch, rfl⟩, rfl⟩
  generalize hq : (C w).map Rec.shown = q at *
  refine ⟨[], _, Verify_ok _ (hG.rh _) (SlR.own 2 rfl (snaps_length _) hg2) (by omega), ?_⟩
  rw [hver]
  rintro _ _ ⟨rfl, rfl⟩
  repeat (first | (refine ⟨fun h => ?_, fun h => ?_⟩; rotate_left 1; (focus (exfalso; (first | (with_reducible (cases h; done)) | (revert h; simp; done) | (revert h; simp; omega) | (revert h; simp [*]; done)))); clear h) | (refine ⟨fun h => ?_, fun h => ?_⟩; (focus (exfalso; (first | (with_reducible (cases h; done)) | (revert h; simp; done) | (revert h; simp; omega) | (revert h; simp [*]; done)))); clear h))
  refine ⟨[0,1], (.q 0 (.q 1 (.q 2 (.q 3 (.q 4 (.q 5 (.q 6 (.q 7 (.q 8 (.q 9 (.one 10 (.q 11 (.q 12 (.q 13 (.q 14 (.q 15 (.q 16 (.q 17 (.q 18 (.q 19 (.q 20 (.q 21 (.q 22 (.q 23 (.q 24 (.q 25 (.q 26 (.q 27 (.q 28 (.q 29 (.q 30 (.q 31 (.q 32 (.q 33 (.q 34 (.one 35 (.q 36 .nil))))))))))))))))))))))))))))))))))))), by kernel_rfl, ?_⟩
  by_cases h0 : i < 0
  · repeat (first | (refine ⟨fun h => ?_, fun h => ?_⟩; rotate_left 1; (focus (exfalso; (first | (with_reducible (cases h; done)) | (revert h; simp; done) | (revert h; simp; omega) | (revert h; simp [*]; done)))); clear h) | (refine ⟨fun h => ?_, fun h => ?_⟩; (focus (exfalso; (first | (with_reducible (cases h; done)) | (revert h; simp; done) | (revert h; simp; omega) | (revert h; simp [*]; done)))); clear h))
    exact ⟨_, Ent.nil _, rfl⟩
  obtain ⟨i, rfl⟩ := Int.eq_ofNat_of_zero_le (by omega : 0 ≤ i)
  repeat (first | (refine ⟨fun h => ?_, fun h => ?_⟩; rotate_left 1; (focus (exfalso; (first | (with_reducible (cases h; done)) | (revert h; simp; done) | (revert h; simp; omega) | (revert h; simp [*]; done)))); clear h) | (refine ⟨fun h => ?_, fun h => ?_⟩; (focus (exfalso; (first | (with_reducible (cases h; done)) | (revert h; simp; done) | (revert h; simp; omega) | (revert h; simp [*]; done)))); clear h))
  by_cases h1 : (q.length : Int) ≤ i
  · repeat (first | (refine ⟨fun h => ?_, fun h => ?_⟩; rotate_left 1; (focus (exfalso; (first | (with_reducible (cases h; done)) | (revert h; simp; done) | (revert h; simp; omega) | (revert h; simp [*]; done)))); clear h) | (refine ⟨fun h => ?_, fun h => ?_⟩; (focus (exfalso; (first | (with_reducible (cases h; done)) | (revert h; simp; done) | (revert h; simp; omega) | (revert h; simp [*]; done)))); clear h))
    exact ⟨_, Ent.nil _, rfl⟩
  have hil : i < q.length := by omega
  have hxr : (C w)[i]? = some (C w)[i] := List.getElem?_eq_getElem (by omega)
  have hbx := hbrk i _ hxr
  have hvx := hvalid i _ hxr
  have hget : q[i]? = some ((C w)[i]).shown := by
    have h := congrArg (Option.map Rec.shown) hxr
    rw [← List.getElem?_map, hq] at h
    exact h
  generalize (C w)[i] = x at *
  obtain ⟨qa, hA2⟩ := growA hg2 (by omega)
  have hcs : SlR (RH R [.blk g7 34 o.cells, .row A2 q.length cap2 34 10 (snaps q) (0, 0)]) 10 (.slice A2 q.length cap2) q.length (snaps q) := SlR.own 1 rfl (snaps_length _) hg2
  obtain ⟨a, hA, hr⟩ := slr_at (c := Snap.cells) (fun _ => rfl) (by omega) hcs hget
  repeat (first | (refine ⟨fun h => ?_, fun h => ?_⟩; rotate_left 1; (focus (exfalso; (first | (with_reducible (cases h; done)) | (revert h; simp; done) | (revert h; simp; omega) | (revert h; simp [*]; done)))); clear h) | (refine ⟨fun h => ?_, fun h => ?_⟩; (focus (exfalso; (first | (with_reducible (cases h; done)) | (revert h; simp; done) | (revert h; simp; omega) | (revert h; simp [*]; done)))); clear h))
  refine ⟨o.cells, rdBlk 0 rfl, rfl, ?_⟩
  repeat (first | (refine ⟨fun h => ?_, fun h => ?_⟩; rotate_left 1; (focus (exfalso; (first | (with_reducible (cases h; done)) | (revert h; simp; done) | (revert h; simp; omega) | (revert h; simp [*]; done)))); clear h) | (refine ⟨fun h => ?_, fun h => ?_⟩; (focus (exfalso; (first | (with_reducible (cases h; done)) | (revert h; simp; done) | (revert h; simp; omega) | (revert h; simp [*]; done)))); clear h))
  cases hvo : validB o
  · refine ⟨[], _, ValV _ o hoO hvo, ?_⟩
    rintro _ _ ⟨rfl, rfl⟩
    repeat (first | (refine ⟨fun h => ?_, fun h => ?_⟩; rotate_left 1; (focus (exfalso; (first | (with_reducible (cases h; done)) | (revert h; simp; done) | (revert h; simp; omega) | (revert h; simp [*]; done)))); clear h) | (refine ⟨fun h => ?_, fun h => ?_⟩; (focus (exfalso; (first | (with_reducible (cases h; done)) | (revert h; simp; done) | (revert h; simp; omega) | (revert h; simp [*]; done)))); clear h))
    exact ⟨_, Ent.nil _, rfl⟩
  refine ⟨[], _, ValV _ o hoO hvo, ?_⟩
  rintro _ _ ⟨rfl, rfl⟩
  repeat (first | (refine ⟨fun h => ?_, fun h => ?_⟩; rotate_left 1; (focus (exfalso; (first | (with_reducible (cases h; done)) | (revert h; simp; done) | (revert h; simp; omega) | (revert h; simp [*]; done)))); clear h) | (refine ⟨fun h => ?_, fun h => ?_⟩; (focus (exfalso; (first | (with_reducible (cases h; done)) | (revert h; simp; done) | (revert h; simp; omega) | (revert h; simp [*]; done)))); clear h))
  refine ⟨_, ld 0 rfl rfl, ?_⟩
  repeat (first | (refine ⟨fun h => ?_, fun h => ?_⟩; rotate_left 1; (focus (exfalso; (first | (with_reducible (cases h; done)) | (revert h; simp; done) | (revert h; simp; omega) | (revert h; simp [*]; done)))); clear h) | (refine ⟨fun h => ?_, fun h => ?_⟩; (focus (exfalso; (first | (with_reducible (cases h; done)) | (revert h; simp; done) | (revert h; simp; omega) | (revert h; simp [*]; done)))); clear h))
  by_cases h2 : o.w = w
  case neg =>
    repeat (first | (refine ⟨fun h => ?_, fun h => ?_⟩; rotate_left 1; (focus (exfalso; (first | (with_reducible (cases h; done)) | (revert h; simp; done) | (revert h; simp; omega) | (revert h; simp [*]; done)))); clear h) | (refine ⟨fun h => ?_, fun h => ?_⟩; (focus (exfalso; (first | (with_reducible (cases h; done)) | (revert h; simp; done) | (revert h; simp; omega) | (revert h; simp [*]; done)))); clear h))
    exact ⟨_, Ent.nil _, rfl⟩
  repeat (first | (refine ⟨fun h => ?_, fun h => ?_⟩; rotate_left 1; (focus (exfalso; (first | (with_reducible (cases h; done)) | (revert h; simp; done) | (revert h; simp; omega) | (revert h; simp [*]; done)))); clear h) | (refine ⟨fun h => ?_, fun h => ?_⟩; (focus (exfalso; (first | (with_reducible (cases h; done)) | (revert h; simp; done) | (revert h; simp; omega) | (revert h; simp [*]; done)))); clear h))
  refine ⟨_, ld 0 rfl rfl, ?_⟩
  repeat (first | (refine ⟨fun h => ?_, fun h => ?_⟩; rotate_left 1; (focus (exfalso; (first | (with_reducible (cases h; done)) | (revert h; simp; done) | (revert h; simp; omega) | (revert h; simp [*]; done)))); clear h) | (refine ⟨fun h => ?_, fun h => ?_⟩; (focus (exfalso; (first | (with_reducible (cases h; done)) | (revert h; simp; done) | (revert h; simp; omega) | (revert h; simp [*]; done)))); clear h))
  refine ⟨by omega, by omega, a, hA, ?_⟩
  repeat (first | (refine ⟨fun h => ?_, fun h => ?_⟩; rotate_left 1; (focus (exfalso; (first | (with_reducible (cases h; done)) | (revert h; simp; done) | (revert h; simp; omega) | (revert h; simp [*]; done)))); clear h) | (refine ⟨fun h => ?_, fun h => ?_⟩; (focus (exfalso; (first | (with_reducible (cases h; done)) | (revert h; simp; done) | (revert h; simp; omega) | (revert h; simp [*]; done)))); clear h))
  refine ⟨_, fldS (hr 1 _ rfl), ?_⟩
  repeat (first | (refine ⟨fun h => ?_, fun h => ?_⟩; rotate_left 1; (focus (exfalso; (first | (with_reducible (cases h; done)) | (revert h; simp; done) | (revert h; simp; omega) | (revert h; simp [*]; done)))); clear h) | (refine ⟨fun h => ?_, fun h => ?_⟩; (focus (exfalso; (first | (with_reducible (cases h; done)) | (revert h; simp; done) | (revert h; simp; omega) | (revert h; simp [*]; done)))); clear h))
  have hxq : x.shown.q = x.s.q := rfl
  by_cases h3 : o.q = x.shown.q
  case neg =>
    repeat (first | (refine ⟨fun h => ?_, fun h => ?_⟩; rotate_left 1; (focus (exfalso; (first | (with_reducible (cases h; done)) | (revert h; simp; done) | (revert h; simp; omega) | (revert h; simp [*]; done)))); clear h) | (refine ⟨fun h => ?_, fun h => ?_⟩; (focus (exfalso; (first | (with_reducible (cases h; done)) | (revert h; simp; done) | (revert h; simp; omega) | (revert h; simp [*]; done)))); clear h))
    exact ⟨_, Ent.nil _, rfl⟩
  repeat (first | (refine ⟨fun h => ?_, fun h => ?_⟩; rotate_left 1; (focus (exfalso; (first | (with_reducible (cases h; done)) | (revert h; simp; done) | (revert h; simp; omega) | (revert h; simp [*]; done)))); clear h) | (refine ⟨fun h => ?_, fun h => ?_⟩; (focus (exfalso; (first | (with_reducible (cases h; done)) | (revert h; simp; done) | (revert h; simp; omega) | (revert h; simp [*]; done)))); clear h))
  refine ⟨o.cells, rdBlk 0 rfl, rfl, ?_⟩
  repeat (first | (refine ⟨fun h => ?_, fun h => ?_⟩; rotate_left 1; (focus (exfalso; (first | (with_reducible (cases h; done)) | (revert h; simp; done) | (revert h; simp; omega) | (revert h; simp [*]; done)))); clear h) | (refine ⟨fun h => ?_, fun h => ?_⟩; (focus (exfalso; (first | (with_reducible (cases h; done)) | (revert h; simp; done) | (revert h; simp; omega) | (revert h; simp [*]; done)))); clear h))
  refine ⟨by omega, by omega, a, hA, ?_⟩
  repeat (first | (refine ⟨fun h => ?_, fun h => ?_⟩; rotate_left 1; (focus (exfalso; (first | (with_reducible (cases h; done)) | (revert h; simp; done) | (revert h; simp; omega) | (revert h; simp [*]; done)))); clear h) | (refine ⟨fun h => ?_, fun h => ?_⟩; (focus (exfalso; (first | (with_reducible (cases h; done)) | (revert h; simp; done) | (revert h; simp; omega) | (revert h; simp [*]; done)))); clear h))
  refine ⟨x.shown.cells, rdnS (vs := x.shown.cells) (fun j u hu => hr j u hu), rfl, ?_⟩
  repeat (first | (refine ⟨fun h => ?_, fun h => ?_⟩; rotate_left 1; (focus (exfalso; (first | (with_reducible (cases h; done)) | (revert h; simp; done) | (revert h; simp; omega) | (revert h; simp [*]; done)))); clear h) | (refine ⟨fun h => ?_, fun h => ?_⟩; (focus (exfalso; (first | (with_reducible (cases h; done)) | (revert h; simp; done) | (revert h; simp; omega) | (revert h; simp [*]; done)))); clear h))
  refine ⟨[], _, Same_ok _ o x.shown, ?_⟩
  rintro _ _ ⟨e, rfl, hee, rfl⟩
  cases e
  case true =>
    repeat (first | (refine ⟨fun h => ?_, fun h => ?_⟩; rotate_left 1; (focus (exfalso; (first | (with_reducible (cases h; done)) | (revert h; simp; done) | (revert h; simp; omega) | (revert h; simp [*]; done)))); clear h) | (refine ⟨fun h => ?_, fun h => ?_⟩; (focus (exfalso; (first | (with_reducible (cases h; done)) | (revert h; simp; done) | (revert h; simp; omega) | (revert h; simp [*]; done)))); clear h))
    exact ⟨_, Ent.nil _, rfl⟩
  repeat (first | (refine ⟨fun h => ?_, fun h => ?_⟩; rotate_left 1; (focus (exfalso; (first | (with_reducible (cases h; done)) | (revert h; simp; done) | (revert h; simp; omega) | (revert h; simp [*]; done)))); clear h) | (refine ⟨fun h => ?_, fun h => ?_⟩; (focus (exfalso; (first | (with_reducible (cases h; done)) | (revert h; simp; done) | (revert h; simp; omega) | (revert h; simp [*]; done)))); clear h))
  have hb4 := hbx hvo h2 h3
  clear hcs hr hA
  refine ⟨by omega, by omega, ⟨qa, 0, .none⟩, hA2, ?_⟩
  refine ⟨x.shown.cells, rdnS (vs := x.shown.cells) (fun j u hu => sn_own 1 hA2 rfl hget j u hu), rfl, ?_⟩
  refine ⟨[], _, SumV _ (hG.rh _) x.shown hvx, ?_⟩
  rintro _ _ ⟨rfl, rfl⟩
  refine ⟨o.cells, rdBlk 0 rfl, rfl, ?_⟩
  refine ⟨[], _, SumV _ (hG.rh _) o hvo, ?_⟩
  rintro _ _ ⟨rfl, rfl⟩
  repeat (first | (refine ⟨fun h => ?_, fun h => ?_⟩; rotate_left 1; (focus (exfalso; (first | (with_reducible (cases h; done)) | (revert h; simp; done) | (revert h; simp; omega) | (revert h; simp [*]; done)))); clear h) | (refine ⟨fun h => ?_, fun h => ?_⟩; (focus (exfalso; (first | (with_reducible (cases h; done)) | (revert h; simp; done) | (revert h; simp; omega) | (revert h; simp [*]; done)))); clear h))
  refine ⟨rfl, fun g0 => ?_⟩
  refine ⟨snaps q, snaps_length q, (SlR.own 1 rfl (snaps_length _) hg2).src, snaps_one q, by show (_ + _) * 96 ≤ _; omega, by omega, .inr ⟨6, rfl, rfl, rfl, rfl, rfl, rfl, fun A3 cap3 hg3 => ?_⟩⟩
  obtain ⟨q3, hA3⟩ := growA hg3 (by omega)
  refine ⟨o.cells, rdBlk 0 rfl, rfl, ?_⟩
  refine ⟨by omega, by omega, ⟨q3, 0, .none⟩, hA3, ?_⟩
  rw [show Int.toNat (i : Int) = i from rfl, show addA (⟨q3, 0, .none⟩ : Addr) (i * ti34.size) = ⟨q3, i * 10, .none⟩ from addA_sn q3 i]
  refine ⟨rfl, rfl, 6, hA3, rfl, by show i * 10 + 10 ≤ (snaps q).length; rw [snaps_length]; omega, ?_⟩
  have e : (q.set i o).length = 0 + q.length := by rw [List.length_set]; omega
  have hV : ∀ R', ShaG R' → SlR R' 10 (.slice A3 (0 + q.length) cap3) (0 + q.length) (snaps (q.set i o)) → Fn Tryd.prog 19 [.slice A3 (0 + q.length) cap3] [] R' (fun v h => v = .int .i64 (verP (q.set i o)) ∧ h = []) := fun R' hG' h => by
    have := Verify_ok R' hG' (A := A3) (cap := cap3) (l := q.set i o)
    rw [e] at this
    exact this h (by omega)
  refine ⟨[], _, hV _ (hG.rh _) (by rw [← snaps_set o hil]; exact SlR.own 6 rfl (by rw [length_setRange, snaps_length, Nat.zero_add]) hg3), ?_⟩
  generalize verP (q.set i o) = k at *
  generalize sumP x.shown = sa at *
  generalize sumP o = sb at *
  rintro _ _ ⟨rfl, rfl⟩
  by_cases hab : sa = sb
  · repeat (first | (refine ⟨fun h => ?_, fun h => ?_⟩; rotate_left 1; (focus (exfalso; (first | (with_reducible (cases h; done)) | (revert h; simp; done) | (revert h; simp; omega) | (revert h; simp [*]; done)))); clear h) | (refine ⟨fun h => ?_, fun h => ?_⟩; (focus (exfalso; (first | (with_reducible (cases h; done)) | (revert h; simp; done) | (revert h; simp; omega) | (revert h; simp [*]; done)))); clear h))
    exact ⟨_, Ent.nil _, rfl⟩
  have hk : k = (i : Int) ∨ k = (i : Int) + 1 ∨ (k = -1 ∧ i + 1 = q.length) := by
    rcases hb4 with h | h | h | h
    · exact absurd h hab
    · exact .inl h
    · exact .inr (.inl h)
    · exact .inr (.inr ⟨h.1, by omega⟩)
  by_cases hk1 : k = (i : Int)
  · repeat (first | (refine ⟨fun h => ?_, fun h => ?_⟩; rotate_left 1; (focus (exfalso; (first | (with_reducible (cases h; done)) | (revert h; simp; done) | (revert h; simp; omega) | (revert h; simp [*]; done)))); clear h) | (refine ⟨fun h => ?_, fun h => ?_⟩; (focus (exfalso; (first | (with_reducible (cases h; done)) | (revert h; simp; done) | (revert h; simp; omega) | (revert h; simp [*]; done)))); clear h))
    exact ⟨_, Ent.nil _, rfl⟩
  repeat (first | (refine ⟨fun h => ?_, fun h => ?_⟩; rotate_left 1; (focus (exfalso; (first | (with_reducible (cases h; done)) | (revert h; simp; done) | (revert h; simp; omega) | (revert h; simp [*]; done)))); clear h) | (refine ⟨fun h => ?_, fun h => ?_⟩; (focus (exfalso; (first | (with_reducible (cases h; done)) | (revert h; simp; done) | (revert h; simp; omega) | (revert h; simp [*]; done)))); clear h))
  (intro z hz; obtain rfl : z = ((i + 1 : Nat) : Int) := (by first | (rw [IntKind.wrap_i64] at hz; omega) | (rw [IntKind.wrap_u64] at hz; omega) | omega); clear hz)
  by_cases hk2 : k = (i : Int) + 1
  · repeat (first | (refine ⟨fun h => ?_, fun h => ?_⟩; rotate_left 1; (focus (exfalso; (first | (with_reducible (cases h; done)) | (revert h; simp; done) | (revert h; simp; omega) | (revert h; simp [*]; done)))); clear h) | (refine ⟨fun h => ?_, fun h => ?_⟩; (focus (exfalso; (first | (with_reducible (cases h; done)) | (revert h; simp; done) | (revert h; simp; omega) | (revert h; simp [*]; done)))); clear h))
    exact ⟨_, Ent.nil _, rfl⟩
  obtain ⟨hk3, hk4⟩ : k = -1 ∧ i + 1 = q.length := by omega
  repeat (first | (refine ⟨fun h => ?_, fun h => ?_⟩; rotate_left 1; (focus (exfalso; (first | (with_reducible (cases h; done)) | (revert h; simp; done) | (revert h; simp; omega) | (revert h; simp [*]; done)))); clear h) | (refine ⟨fun h => ?_, fun h => ?_⟩; (focus (exfalso; (first | (with_reducible (cases h; done)) | (revert h; simp; done) | (revert h; simp; omega) | (revert h; simp [*]; done)))); clear h))
  (intro z hz; obtain rfl : z = ((i : Nat) : Int) := (by first | (rw [IntKind.wrap_i64] at hz; omega) | (rw [IntKind.wrap_u64] at hz; omega) | omega); clear hz)
  repeat (first | (refine ⟨fun h => ?_, fun h => ?_⟩; rotate_left 1; (focus (exfalso; (first | (with_reducible (cases h; done)) | (revert h; simp; done) | (revert h; simp; omega) | (revert h; simp [*]; done)))); clear h) | (refine ⟨fun h => ?_, fun h => ?_⟩; (focus (exfalso; (first | (with_reducible (cases h; done)) | (revert h; simp; done) | (revert h; simp; omega) | (revert h; simp [*]; done)))); clear h))
  refine ⟨_, Ent.nil _, ?_⟩
  first | rfl | (show Value.bool (decide ((i : Int) = i)) = _; rw [decide_eq_true rfl])

end Go.Proofs.YtbgfnofjnbpdgaaDoor
