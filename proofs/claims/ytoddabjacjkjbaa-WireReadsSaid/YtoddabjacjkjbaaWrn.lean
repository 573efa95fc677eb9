/-
  The contract of get: one read by a wire.Reader.
-/
import Derived.Test.YtoddabjacjkjbaaW2
import Derived.Test.YtoddabjacjkjbaaWry
namespace Go.Proofs.Ytoddabjacjkjbaa
open Go Go.RowKit

theorem rdBlk {R : Rd} {h : Hp} (i : Nat) {g : Nat} {t : TypeId} {cs : List Value} (hi : h[i]? = some (.blk g t cs)) : ∀ j u, cs[j]? = some u → RH R h ((⟨g, 0, .none⟩ : Addr).add j) u := by
  intro j u hu
  rw [add_zero_addr]
  exact ld i hi hu

def zeroI (k most : Int) : Item := ⟨k, 0, 0, false, [], most⟩
/-- One read at these bytes: the error, the value, what is left. -/
def rd1 (k most : Int) (l : List UInt8) : Int × Item × List UInt8 :=
  if k = 1 then ((uintD l).1, ⟨k, (uintD l).2.1, 0, false, [], most⟩, (uintD l).2.2)
  else if k = 2 then ((uintD l).1, ⟨k, 0, zag (uintD l).2.1, false, [], most⟩, (uintD l).2.2)
  else if k = 3 then ((boolD l).1, ⟨k, 0, 0, (boolD l).2.1, [], most⟩, (boolD l).2.2)
  else if k = 4 ∨ k = 5 then ((blkD most l).1, ⟨k, 0, 0, false, (blkD most l).2.1, most⟩, (blkD most l).2.2)
  else if k = 6 then ((sumD l).1, ⟨k, 0, 0, false, (sumD l).2.1, most⟩, (sumD l).2.2)
  else if k = 7 then ((limD most l).1, ⟨k, 0, ((limD most l).2.1 : Nat), false, [], most⟩, (limD most l).2.2)
  else (0, zeroI k most, l)
/-- The value that get returns, and the reader's state behind it. -/
def getI (k most e : Int) (l : List UInt8) : Item := if e = 0 ∧ k ≠ 0 then (rd1 k most l).2.1 else zeroI k most
def getN (data : List UInt8) (st : Nat × Nat × Int) (k most : Int) : Nat × Nat × Int :=
  if k = 0 then (if st.2.2 = 0 then (st.2.1, st.2.1, 3) else st) else if knownB k = true then nxt data st.1 st.2.1 st.2.2 (rd1 k most (data.drop st.1)).1 (rd1 k most (data.drop st.1)).2.2 else st

theorem getI_yes {k most : Int} {l : List UInt8} (h : k ≠ 0) : getI k most 0 l = (rd1 k most l).2.1 := by rw [getI, if_pos ⟨rfl, h⟩]
theorem getI_no {k most e : Int} (l : List UInt8) (h : e ≠ 0) : getI k most e l = zeroI k most := by rw [getI, if_neg (fun h' => h h'.1)]

set_option maxRecDepth 100000 in
set_option maxHeartbeats 8000000 in
theorem get_ok (R : Rd) (g : Nat) (data : List UInt8) (off last : Nat) (e : Int) (h : Hp) (k most : Int) (hm1 : most ≤ 9223372036854775807) (ho : off ≤ data.length) (hd : data.length ≤ 1000000000) (hr : IsR g data off last e h) :
    Fn Try.prog 7 [.pointer (some ⟨g, 0, .none⟩), .int .i64 k, .int .i64 most] h R (fun v h' => v = .agg ⟨(getI k most e (data.drop off)).cells⟩ ∧ IsRn g data (getN data (off, last, e) k most) h') := by
  obtain ⟨A, n, cap, xs, rfl, hk, hx, hg⟩ := hr
  refine fn_of_vc mixed tabOk Try.func7 rfl (by kernel_rfl) (Nat.le_of_ble_eq_true rfl) ?_
  intro g6
  intro g7
  refine ⟨rfl, rfl, 3, rfl, rfl, Nat.le_of_ble_eq_true rfl, ?_⟩
  refine ⟨fun hb => ?_, fun hb => ?_⟩
  · replace hb := of_decide_eq_true hb
    subst hb
    refine ⟨[0, 0], _, RFail_ok _ g data off last e _ ⟨A, n, cap, xs, rfl, hk, hx, hg⟩, ?_⟩
    clear hk hx hg
    rintro v' h' ⟨A, n, cap, xs, rfl, hk, hx, hg⟩
    refine ⟨_, rdBlk 1 rfl, rfl, ?_⟩
    refine ⟨rfl, rfl, 0, rfl, rfl, Nat.le_of_ble_eq_true rfl, ?_⟩
    refine ⟨_, rdBlk 0 rfl, rfl, ?_⟩
    refine ⟨_, Ent.dropr [_, _] _, ?_, A, n, cap, xs, rfl, hk, hx, hg⟩
    rw [getI, if_neg (fun h => h.2 rfl)]; rfl
  replace hb := of_decide_eq_false hb
  have n0 : ¬ k = 0 := hb
  clear hb
  refine ⟨fun hb => ?_, fun hb => ?_⟩
  · replace hb := of_decide_eq_true hb
    subst hb
    refine ⟨[0, 0], _, RUint_ok _ g data off last e _ ho (by omega) ⟨A, n, cap, xs, rfl, hk, hx, hg⟩, ?_⟩
    clear hk hx hg
    rintro v' h' ⟨rfl, A, n, cap, xs, rfl, hk, hx, hg⟩
    refine ⟨rfl, rfl, 1, rfl, rfl, Nat.le_of_ble_eq_true rfl, ?_⟩
    refine ⟨_, rdBlk 1 rfl, rfl, ?_⟩
    refine ⟨rfl, rfl, 0, rfl, rfl, Nat.le_of_ble_eq_true rfl, ?_⟩
    refine ⟨_, rdBlk 0 rfl, rfl, ?_⟩
    refine ⟨_, Ent.dropr [_, _] _, ?_, A, n, cap, xs, rfl, hk, hx, hg⟩
    by_cases he : e = 0
    · subst he; rw [getI_yes (by omega)]; rfl
    · rw [getI_no _ he]; simp only [if_neg he]; rfl
  replace hb := of_decide_eq_false hb
  have n1 : ¬ k = 1 := hb
  clear hb
  refine ⟨fun hb => ?_, fun hb => ?_⟩
  · replace hb := of_decide_eq_true hb
    subst hb
    refine ⟨[0, 0], _, RInt_ok _ g data off last e _ ho (by omega) ⟨A, n, cap, xs, rfl, hk, hx, hg⟩, ?_⟩
    clear hk hx hg
    rintro v' h' ⟨rfl, A, n, cap, xs, rfl, hk, hx, hg⟩
    refine ⟨rfl, rfl, 1, rfl, rfl, Nat.le_of_ble_eq_true rfl, ?_⟩
    refine ⟨_, rdBlk 1 rfl, rfl, ?_⟩
    refine ⟨rfl, rfl, 0, rfl, rfl, Nat.le_of_ble_eq_true rfl, ?_⟩
    refine ⟨_, rdBlk 0 rfl, rfl, ?_⟩
    refine ⟨_, Ent.dropr [_, _] _, ?_, A, n, cap, xs, rfl, hk, hx, hg⟩
    by_cases he : e = 0
    · subst he; rw [getI_yes (by omega)]; rfl
    · rw [getI_no _ he]; simp only [if_neg he]; rfl
  replace hb := of_decide_eq_false hb
  have n2 : ¬ k = 2 := hb
  clear hb
  refine ⟨fun hb => ?_, fun hb => ?_⟩
  · replace hb := of_decide_eq_true hb
    subst hb
    refine ⟨[0, 0], _, RBool_ok _ g data off last e _ ho (by omega) ⟨A, n, cap, xs, rfl, hk, hx, hg⟩, ?_⟩
    clear hk hx hg
    rintro v' h' ⟨rfl, A, n, cap, xs, rfl, hk, hx, hg⟩
    refine ⟨rfl, rfl, 1, rfl, rfl, Nat.le_of_ble_eq_true rfl, ?_⟩
    refine ⟨_, rdBlk 1 rfl, rfl, ?_⟩
    refine ⟨rfl, rfl, 0, rfl, rfl, Nat.le_of_ble_eq_true rfl, ?_⟩
    refine ⟨_, rdBlk 0 rfl, rfl, ?_⟩
    refine ⟨_, Ent.dropr [_, _] _, ?_, A, n, cap, xs, rfl, hk, hx, hg⟩
    by_cases he : e = 0
    · subst he; rw [getI_yes (by omega)]; rfl
    · rw [getI_no _ he]; simp only [if_neg he]; rfl
  replace hb := of_decide_eq_false hb
  have n3 : ¬ k = 3 := hb
  clear hb
  refine ⟨fun hb => ?_, fun hb => ?_⟩
  · replace hb := of_decide_eq_true hb
    subst hb
    refine ⟨[0, 0], _, RBytes_ok _ g data off last e _ most hm1 ho (by omega) ⟨A, n, cap, xs, rfl, hk, hx, hg⟩, ?_⟩
    clear hk hx hg
    rintro v' h' ⟨h2, hx', rfl, ⟨A2, n2, cap2, xs2, rfl, rfl, hk2, hx2, hg2⟩, A, n, cap, xs, rfl, hk, hx, hg⟩
    refine ⟨_, hk2.symm, fun j b hjb => (BsR.own 4 rfl hk2 hx2 hg2).at_ hjb, ?_⟩
    refine ⟨rfl, rfl, 1, rfl, rfl, Nat.le_of_ble_eq_true rfl, ?_⟩
    refine ⟨_, rdBlk 1 rfl, rfl, ?_⟩
    refine ⟨rfl, rfl, 0, rfl, rfl, Nat.le_of_ble_eq_true rfl, ?_⟩
    refine ⟨_, rdBlk 0 rfl, rfl, ?_⟩
    refine ⟨_, (Ent.dropr [_, _] _).trans (Ent.drop [_, _] [_]), ?_, A, n, cap, xs, rfl, hk, hx, hg⟩
    by_cases he : e = 0
    · subst he; rw [getI_yes (by omega)]; rfl
    · rw [getI_no _ he]; simp only [if_neg he]; rfl
  replace hb := of_decide_eq_false hb
  have n4 : ¬ k = 4 := hb
  clear hb
  refine ⟨fun hb => ?_, fun hb => ?_⟩
  · replace hb := of_decide_eq_true hb
    subst hb
    refine ⟨[0, 0], _, RText_ok _ g data off last e _ most hm1 ho (by omega) ⟨A, n, cap, xs, rfl, hk, hx, hg⟩, ?_⟩
    clear hk hx hg
    rintro v' h' ⟨rfl, A, n, cap, xs, rfl, hk, hx, hg⟩
    refine ⟨rfl, rfl, 1, rfl, rfl, Nat.le_of_ble_eq_true rfl, ?_⟩
    refine ⟨_, rdBlk 1 rfl, rfl, ?_⟩
    refine ⟨rfl, rfl, 0, rfl, rfl, Nat.le_of_ble_eq_true rfl, ?_⟩
    refine ⟨_, rdBlk 0 rfl, rfl, ?_⟩
    refine ⟨_, Ent.dropr [_, _] _, ?_, A, n, cap, xs, rfl, hk, hx, hg⟩
    by_cases he : e = 0
    · subst he; rw [getI_yes (by omega)]; rfl
    · rw [getI_no _ he]; simp only [if_neg he]; rfl
  replace hb := of_decide_eq_false hb
  have n5 : ¬ k = 5 := hb
  clear hb
  refine ⟨fun hb => ?_, fun hb => ?_⟩
  · replace hb := of_decide_eq_true hb
    subst hb
    refine ⟨[0, 0], _, RSum_ok _ g data off last e _ ho (by omega) ⟨A, n, cap, xs, rfl, hk, hx, hg⟩, ?_⟩
    clear hk hx hg
    rintro v' h' ⟨rfl, A, n, cap, xs, rfl, hk, hx, hg⟩
    refine ⟨rfl, rfl, 1, rfl, rfl, Nat.le_of_ble_eq_true rfl, ?_⟩
    refine ⟨_, rdBlk 1 rfl, rfl, ?_⟩
    refine ⟨rfl, rfl, 0, rfl, rfl, Nat.le_of_ble_eq_true rfl, ?_⟩
    refine ⟨_, rdBlk 0 rfl, rfl, ?_⟩
    refine ⟨_, Ent.dropr [_, _] _, ?_, A, n, cap, xs, rfl, hk, hx, hg⟩
    by_cases he : e = 0
    · subst he; rw [getI_yes (by omega)]; rfl
    · rw [getI_no _ he]; simp only [if_neg he]; rfl
  replace hb := of_decide_eq_false hb
  have n6 : ¬ k = 6 := hb
  clear hb
  refine ⟨fun hb => ?_, fun hb => ?_⟩
  · replace hb := of_decide_eq_true hb
    subst hb
    refine ⟨[0, 0], _, RCount_ok _ g data off last e _ most hm1 ho (by omega) ⟨A, n, cap, xs, rfl, hk, hx, hg⟩, ?_⟩
    clear hk hx hg
    rintro v' h' ⟨rfl, A, n, cap, xs, rfl, hk, hx, hg⟩
    refine ⟨rfl, rfl, 1, rfl, rfl, Nat.le_of_ble_eq_true rfl, ?_⟩
    refine ⟨_, rdBlk 1 rfl, rfl, ?_⟩
    refine ⟨rfl, rfl, 0, rfl, rfl, Nat.le_of_ble_eq_true rfl, ?_⟩
    refine ⟨_, rdBlk 0 rfl, rfl, ?_⟩
    refine ⟨_, Ent.dropr [_, _] _, ?_, A, n, cap, xs, rfl, hk, hx, hg⟩
    by_cases he : e = 0
    · subst he; rw [getI_yes (by omega)]; rfl
    · rw [getI_no _ he]; simp only [if_neg he]; rfl
  replace hb := of_decide_eq_false hb
  have n7 : ¬ k = 7 := hb
  clear hb
  have hun : ¬ (1 ≤ k ∧ k ≤ 7) := by omega
  have hkf : ¬ knownB k = true := by
    intro h
    rw [knownB, Bool.and_eq_true, decide_eq_true_iff, decide_eq_true_iff] at h
    exact hun h
  refine ⟨_, rdBlk 3 rfl, rfl, ?_⟩
  refine ⟨rfl, rfl, 2, rfl, rfl, Nat.le_of_ble_eq_true rfl, ?_⟩
  refine ⟨_, rdBlk 2 rfl, rfl, ?_⟩
  refine ⟨_, Ent.drop [_, _] [_, _], ?_, ?_⟩
  · have : getI k most e (data.drop off) = zeroI k most := by
      rw [getI]
      split
      · rw [rd1, if_neg n1, if_neg n2, if_neg n3, if_neg (by omega), if_neg n6, if_neg n7]
      · rfl
    rw [this]; rfl
  · rw [getN, if_neg n0, if_neg hkf]
    exact ⟨A, n, cap, xs, rfl, hk, hx, hg⟩

end Go.Proofs.Ytoddabjacjkjbaa
