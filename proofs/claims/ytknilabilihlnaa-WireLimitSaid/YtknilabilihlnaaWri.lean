/-
  The law WireLimit: the walk.
-/
import Derived.Test.YtknilabilihlnaaWrg
import Derived.Test.YtknilabilihlnaaVcl
namespace Go.Proofs.Ytknilabilihlnaa
open Go Go.RowKit

def IV (l : List Int) : List Value := l.flatMap fun x => [Value.int .i64 x]
theorem IV_get : ∀ {l : List Int} {i : Nat} {x : Int}, l[i]? = some x → (IV l)[i]? = some (.int .i64 x)
  | [], i, x, h => by simp at h
  | y :: l, 0, x, h => by simp at h; subst h; rfl
  | y :: l, i + 1, x, h => by
    have := IV_get (l := l) (i := i) (x := x) (by simpa using h)
    simpa [IV] using this

theorem repl_zero (n : Nat) : repl [Value.int .u8 0] n = BV (List.replicate n 0) := by
  induction n with
  | zero => rfl
  | succ n ih => rw [List.replicate_succ, BV, List.map_cons, ← BV, ← ih]; rfl

set_option maxRecDepth 100000 in
set_option maxHeartbeats 8000000 in
theorem WireLimit_ok (R : Rd) (v : Value) (l : List Int) (z : Int) (hs : SlR R 1 v l.length (IV l)) :
    Fn Try.prog 5 [v, .int .i64 z] [] R (fun v _ => v = .bool true) := by
  obtain ⟨_, A0, cap0, rfl, hsrc⟩ := hs
  refine fn_of_vc mixed tabOk Try.func5 rfl (by kernel_rfl) (Nat.le_of_ble_eq_true rfl) ?_
  refine ⟨[], _, awake_ok _, ?_⟩
  rintro v h' ⟨rfl, rfl⟩
  repeat (first | refine ⟨fun h => (by exfalso; first | (simp at h; done) | (simp at h; omega)), fun _ => ?_⟩ | refine ⟨fun _ => ?_, fun h => (by exfalso; first | (simp at h; done) | (simp at h; omega))⟩)
  refine ⟨fun hb => ?_, fun hb => ?_⟩
  · replace hb := of_decide_eq_true hb
    exact ⟨_, Ent.nil _, rfl⟩
  · replace hb := of_decide_eq_false hb
    have hln : l.length ≤ 20 := by omega
    clear hb
    refine ⟨[], _, NewWriter_ok _, ?_⟩
    rintro v h' ⟨g, rfl, A, k, cap, xs, rfl, hk, hx, hg⟩
    refine ⟨[4, 6, 7, 8, 9, 18, 19, 20, 21, 22, 23, 24, 25, 26, 27, 28, 29, 30, 31, 32, 33, 34, 35, 36, 37, 38, 39, 40, 41, 42, 43, 44, 45, 46, 47, 48, 49, 50], [4, 6, 7, 8],
      Nat × Nat × Bool × List UInt8 × Option Addr × Nat × Nat × List Value,
      fun ⟨i, t, f, bs, A, k, cap, xs⟩ => i ≤ l.length ∧ t ≤ i * 100010 ∧ bs.length ≤ t ∧ (f = false → bs.length = t) ∧ k = bs.length ∧ xs = BV bs ∧ grow k A,
      fun ⟨i, t, f, bs, A, k, cap, xs⟩ => [.bool false, .int .i64 t, .bool f, .int .i64 i],
      fun ⟨i, t, f, bs, A, k, cap, xs⟩ => [.blk g 68 [.slice A k cap, .int .i64 (if f then 1 else 0)], .row A k cap 5 1 xs (0, 0)],
      fun ⟨i, t, f, bs, A, k, cap, xs⟩ => l.length - i, (0, 0, false, [], A, k, cap, xs), ⟨by omega, by omega, by simp, by simp, hk, hx, hg⟩, ⟨rfl, rfl, rfl, rfl, trivial⟩, Ent.refl _, ?_⟩
    clear hk hx hg
    rintro ⟨i, t, f, bs, A, k, cap, xs⟩ ⟨hi, ht, hbt, hft, hk, hx, hg⟩ js
    refine ⟨fun hb => ?_, fun hb => ?_⟩
    · replace hb := of_decide_eq_true hb
      have h1 : i < l.length := by omega
      obtain ⟨a, rfl, hRa⟩ := hsrc i _ (IV_get (List.getElem?_eq_getElem h1))
      generalize l[i] = p at hRa
      refine ⟨by omega, by omega, a, rfl, ?_⟩
      refine ⟨_, ro (ld1 hRa), ?_⟩
      by_cases hp0 : p < 0
      · repeat (first | refine ⟨fun h => (by exfalso; first | (simp at h; done) | (simp at h; omega)), fun _ => ?_⟩ | refine ⟨fun _ => ?_, fun h => (by exfalso; first | (simp at h; done) | (simp at h; omega))⟩)
        exact ⟨_, Ent.nil _, rfl⟩
      by_cases hp1 : 100000 < p
      · repeat (first | refine ⟨fun h => (by exfalso; first | (simp at h; done) | (simp at h; omega)), fun _ => ?_⟩ | refine ⟨fun _ => ?_, fun h => (by exfalso; first | (simp at h; done) | (simp at h; omega))⟩)
        exact ⟨_, Ent.nil _, rfl⟩
      obtain ⟨q, rfl⟩ : ∃ q : Nat, p = q := ⟨p.toNat, by omega⟩
      have hq : q ≤ 100000 := by omega
      have hu10 := usize_le10 (n := q) (by omega)
      have hlq := length_num q
      repeat (first | refine ⟨fun h => (by exfalso; first | (simp at h; done) | (simp at h; omega)), fun _ => ?_⟩ | refine ⟨fun _ => ?_, fun h => (by exfalso; first | (simp at h; done) | (simp at h; omega))⟩)
      refine ⟨fun hw => ?_, fun hw => ?_⟩
      · refine ⟨[0, 0], _, WCount_ok _ g bs (if f then 1 else 0) _ (-1) (by omega) (by omega) ⟨A, k, cap, xs, rfl, hk, hx, hg⟩, ?_⟩
        clear hk hx hg
        rintro v' h' hw'
        rw [if_neg (by omega), show (if (if f then (1 : Int) else 0) = 0 ∧ (-1 : Int) < 0 then (1 : Int) else if f then 1 else 0) = 1 by cases f <;> simp] at hw'
        obtain ⟨A, k, cap, xs, rfl, hk, hx, hg⟩ := hw'
        refine ⟨by omega, by omega, by show (1 : Int) * _ ≤ _; omega, by rw [maxLen_eq]; omega, fun g2 => ?_⟩
        refine ⟨[0, 0], _, WBytes_ok _ g bs 1 _ _ (List.replicate q 0) (by rw [List.length_replicate]; omega) ⟨A, k, cap, xs, rfl, hk, hx, hg⟩ (BsR.own 0 rfl (by rw [List.length_replicate]; exact Int.toNat_natCast q) (repl_zero q) (.inr ⟨_, rfl⟩)), ?_⟩
        clear hk hx hg
        rintro v' h' hw'
        rw [if_neg (by omega)] at hw'
        obtain ⟨A, k, cap, xs, rfl, hk, hx, hg⟩ := hw'
        (intro z hz; obtain rfl := wr_i64 hz (by omega) (by omega); clear hz)
        (intro z hz; obtain rfl := wr_u64 hz (by omega) (by omega); clear hz)
        refine ⟨[], _, Number_ok _ q (by omega), ?_⟩
        rintro v h' ⟨A4, k4, cap4, xs4, rfl, rfl, hk4, hx4, hg4⟩
        rw [hlq] at hk4
        subst hk4
        (intro z hz; obtain rfl := wr_i64 hz (by omega) (by omega); clear hz)
        (intro z hz; obtain rfl := wr_i64 hz (by omega) (by omega); clear hz)
        exact ⟨rfl, (i + 1, t + q + usize q, true, bs, A, k, cap, xs), ⟨by omega, by omega, by omega, by simp, hk, hx, hg⟩, by show l.length - (i + 1) < l.length - i; omega, ⟨rfl, rfl, rfl, rfl, trivial⟩, (Ent.dropr [_] _).trans (Ent.drop [_, _] [_]), rfl⟩
      · refine ⟨by omega, by omega, by show (1 : Int) * _ ≤ _; omega, by rw [maxLen_eq]; omega, fun g2 => ?_⟩
        refine ⟨[0, 0], _, WBytes_ok _ g bs (if f then 1 else 0) _ _ (List.replicate q 0) (by rw [List.length_replicate]; omega) ⟨A, k, cap, xs, rfl, hk, hx, hg⟩ (BsR.own 0 rfl (by rw [List.length_replicate]; exact Int.toNat_natCast q) (repl_zero q) (.inr ⟨_, rfl⟩)), ?_⟩
        clear hk hx hg
        rintro v' h' hw'
        obtain ⟨A, k, cap, xs, rfl, hk, hx, hg⟩ := hw'
        (intro z hz; obtain rfl := wr_i64 hz (by omega) (by omega); clear hz)
        (intro z hz; obtain rfl := wr_u64 hz (by omega) (by omega); clear hz)
        refine ⟨[], _, Number_ok _ q (by omega), ?_⟩
        rintro v h' ⟨A4, k4, cap4, xs4, rfl, rfl, hk4, hx4, hg4⟩
        rw [hlq] at hk4
        subst hk4
        (intro z hz; obtain rfl := wr_i64 hz (by omega) (by omega); clear hz)
        (intro z hz; obtain rfl := wr_i64 hz (by omega) (by omega); clear hz)
        refine ⟨rfl, (i + 1, t + q + usize q, f, _, A, k, cap, xs), ⟨by omega, by omega, ?_, ?_, hk, hx, hg⟩, by show l.length - (i + 1) < l.length - i; omega, ⟨rfl, rfl, rfl, rfl, trivial⟩, (Ent.dropr [_] _).trans (Ent.drop [_, _] [_]), rfl⟩
        · cases f
          · simp [length_num]; have := hft rfl; omega
          · simp; omega
        · intro hf
          subst hf
          simp [length_num]; have := hft rfl; omega
    · replace hb := of_decide_eq_false hb
      obtain rfl : i = l.length := by omega
      refine ⟨[0, 0], _, WDone_ok _ g bs (if f then 1 else 0) _ ⟨A, k, cap, xs, rfl, hk, hx, hg⟩, ?_⟩
      clear hk hx hg
      rintro v h' ⟨s, hw, hs, rfl, rfl, -, ⟨A2, k2, cap2, xs2, rfl, rfl, hk2, -, -⟩⟩
      cases f
      · have hft := hft rfl
        by_cases hbig : 1048576 < t
        · have h1 : doneE bs (if false then 1 else 0) = 2 := by simp [doneE]; omega
          have h2 : doneB bs (if false then 1 else 0) = [] := by simp [doneB]; omega
          rw [h2] at hk2
          subst hk2
          rw [h1]
          repeat (first | refine ⟨fun h => (by exfalso; first | (simp at h; done) | (simp at h; omega)), fun _ => ?_⟩ | refine ⟨fun _ => ?_, fun h => (by exfalso; first | (simp at h; done) | (simp at h; omega))⟩)
          refine ⟨_, Ent.nil _, ?_⟩
          first | rfl | simp
        · have h1 : doneE bs (if false then 1 else 0) = 0 := by simp [doneE]; omega
          have h2 : doneB bs (if false then 1 else 0) = bs := by simp [doneB]; omega
          rw [h2] at hk2
          subst hk2
          rw [h1]
          repeat (first | refine ⟨fun h => (by exfalso; first | (simp at h; done) | (simp at h; omega)), fun _ => ?_⟩ | refine ⟨fun _ => ?_, fun h => (by exfalso; first | (simp at h; done) | (simp at h; omega))⟩)
          refine ⟨_, Ent.nil _, ?_⟩
          first | rfl | simp
      · have h1 : doneE bs (if true then 1 else 0) = 1 := by simp [doneE]
        have h2 : doneB bs (if true then 1 else 0) = [] := by simp [doneB]
        rw [h2] at hk2
        subst hk2
        rw [h1]
        repeat (first | refine ⟨fun h => (by exfalso; first | (simp at h; done) | (simp at h; omega)), fun _ => ?_⟩ | refine ⟨fun _ => ?_, fun h => (by exfalso; first | (simp at h; done) | (simp at h; omega))⟩)
        refine ⟨_, Ent.nil _, ?_⟩
        first | rfl | simp

theorem WireLimit_law (R : Rd) (v0 v1 : Value) (s0 : SeenV R (.sl 1 (.int .i64)) v0) (s1 : SeenV R (.int .i64) v1) :
    Fn Try.prog 5 [v0, v1] [] R (fun v _ => v = .bool true) := by
  obtain ⟨l, _, _, hl⟩ := s0.ints
  obtain ⟨z, rfl, _, _⟩ := s1.i64
  exact WireLimit_ok R v0 l z hl

end Go.Proofs.Ytknilabilihlnaa
