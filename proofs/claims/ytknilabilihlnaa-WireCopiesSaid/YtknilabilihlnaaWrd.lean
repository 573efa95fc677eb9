/-
  Contracts of the instances of wire.readValue and of the functions that they defer. Written by a program (gen_readvalue.py).
-/
import Derived.Test.YtknilabilihlnaaWrc
namespace Go.Proofs.Ytknilabilihlnaa
open Go Go.RowKit

theorem ent_after (a b c d e : HA) (l : Hp) : Ent (([a] ++ l) ++ [b, c, d, e]) ([b, a, d] ++ l) := by
  have p1 : (([a] ++ l) ++ [b, c, d, e]).Perm (b :: c :: d :: e :: a :: l) := List.perm_append_comm
  have p2 : (b :: c :: d :: e :: a :: l).Perm (c :: e :: b :: a :: d :: l) :=
    (List.Perm.swap c b _).trans (List.Perm.cons c ((List.Perm.cons b ((List.Perm.swap e d _).trans (List.Perm.cons e (List.Perm.swap a d _)))).trans (List.Perm.swap e b _)))
  exact (Ent.perm (p1.trans p2)).trans (Ent.dropr [c, e] ([b, a, d] ++ l))

theorem dfrU_ok (R : Rd) (g b1 b2 b3 : Nat) (sl val : Value) (off last s e : Int) :
    FnD Try.prog 69 [.pointer (some ⟨b3, 0, .none⟩), .pointer (some ⟨b1, 0, .none⟩), .pointer (some ⟨b2, 0, .none⟩)]
      [.blk g 70 [sl, .int .i64 off, .int .i64 last, .int .i64 e], .blk b1 49 [.pointer (some ⟨g, 0, .none⟩)], .blk b2 23 [val], .blk b3 3 [.int .i64 s]] R
      (fun h' => h' = [.blk g 70 [sl, .int .i64 (if e = 0 then off else s), .int .i64 s, .int .i64 e], .blk b1 49 [.pointer (some ⟨g, 0, .none⟩)], .blk b2 23 [if e = 0 then val else Value.int .u64 0], .blk b3 3 [.int .i64 s]]) := by
  refine fnD_of_vc mixed tabOk Try.func69 rfl (by kernel_rfl) (Nat.le_of_ble_eq_true rfl) rfl ?_
  refine ⟨_, ld 1 rfl rfl, ?_⟩
  refine ⟨_, ld 3 rfl rfl, ?_⟩
  refine ⟨rfl, rfl, 0, rfl, rfl, Nat.le_of_ble_eq_true rfl, ?_⟩
  refine ⟨_, ld 1 rfl rfl, ?_⟩
  refine ⟨_, ld 0 rfl rfl, ?_⟩
  refine ⟨fun he => ?_, fun he => ?_⟩
  · have he : ¬ e = 0 := by simpa using he
    refine ⟨_, ld 1 rfl rfl, ?_⟩
    refine ⟨_, ld 3 rfl rfl, ?_⟩
    refine ⟨rfl, rfl, 0, rfl, rfl, Nat.le_of_ble_eq_true rfl, ?_⟩
    refine ⟨rfl, rfl, 2, rfl, rfl, Nat.le_of_ble_eq_true rfl, ?_⟩
    refine ⟨rfl, _, Ent.refl _, ?_⟩
    rw [if_neg he, if_neg he]
    rfl
  · have he : e = 0 := by simpa using he
    refine ⟨rfl, _, Ent.refl _, ?_⟩
    rw [if_pos he, if_pos he]
    rfl

set_option maxHeartbeats 4000000 in
theorem rvU_ok (R : Rd) (g : Nat) (data : List UInt8) (off last : Nat) (e : Int) (h : Hp) (hr : IsR g data off last e h) (fd : FuncId) (D : Int → Int → Nat → Hp → Prop)
    (hdec : e = 0 → ∀ (R' : Rd) (h1 : Hp), (∀ a v, R a v → R' a v) → IsR g data off last 0 h1 → Fn Try.prog fd ([.pointer (some ⟨g, 0, .none⟩)] ++ []) h1 R' (fun v h' => ∃ (x : Int) (err : Int) (off' : Nat) (h2 hx : Hp), v = .tuple ⟨[Value.int .u64 x, .int .i64 err]⟩ ∧ IsR g data off' last 0 h2 ∧ h' = h2 ++ hx ∧ D x err off' hx)) :
    Fn Try.prog 57 [.pointer (some ⟨g, 0, .none⟩), .func (.func fd) ⟨[.pointer (some ⟨g, 0, .none⟩)]⟩ ⟨[]⟩] h R (fun v h' =>
      (e ≠ 0 ∧ v = Value.int .u64 0 ∧ IsR g data off last e h') ∨
      (e = 0 ∧ ∃ (x : Int) (err : Int) (off' : Nat) (h2 hx : Hp), D x err off' hx ∧ ((err = 0 ∧ v = Value.int .u64 x ∧ IsR g data off' off 0 h2 ∧ h' = h2 ++ hx) ∨ (err ≠ 0 ∧ v = Value.int .u64 0 ∧ IsR g data off off err h')))) := by
  obtain ⟨A, k, cap, xs, rfl, hk, hxs, hg⟩ := hr
  refine fn_of_vc mixed tabOk Try.func57 rfl (by kernel_rfl) (Nat.le_of_ble_eq_true rfl) ?_
  intro b1 b2
  refine ⟨_, ld 2 rfl rfl, ?_⟩
  refine ⟨_, ld 0 rfl rfl, ?_⟩
  refine ⟨fun he => ?_, fun he => ?_⟩
  · have he : ¬ e = 0 := by simpa using he
    refine ⟨_, ld 3 rfl rfl, ?_⟩
    refine ⟨rfl, rfl, 3, rfl, rfl, Nat.le_of_ble_eq_true rfl, ?_⟩
    refine ⟨_, ld 3 rfl rfl, ?_⟩
    exact ⟨_, Ent.drop [_, _] [_, _], .inl ⟨he, rfl, A, k, cap, xs, rfl, hk, hxs, hg⟩⟩
  · have he : e = 0 := by simpa using he
    subst he
    refine ⟨_, ld 2 rfl rfl, ?_⟩
    refine ⟨_, ld 0 rfl rfl, ?_⟩
    intro b3
    refine ⟨rfl, rfl, 4, rfl, rfl, Nat.le_of_ble_eq_true rfl, ?_⟩
    refine ⟨[2, 3], (.q 0 (.q 1 (.one 2 (.q 3 (.q 4 (.q 5 (.one 6 (.q 7 (.q 8 (.one 9 .nil)))))))))), by kernel_rfl, ?_⟩
    refine ⟨_, ld 0 rfl rfl, ?_⟩
    refine ⟨[0, 0], _, hdec rfl _ _ (fun a v h => .inl (.inl h)) ⟨A, k, cap, xs, rfl, hk, hxs, hg⟩, ?_⟩
    rintro v' h' ⟨x, err, off', h2, hx, rfl, ⟨A', k', cap', xs', rfl, hk', hxs', hg'⟩, rfl, hD⟩
    refine ⟨rfl, rfl, 0, rfl, rfl, Nat.le_of_ble_eq_true rfl, ?_⟩
    refine ⟨rfl, rfl, 1, rfl, rfl, Nat.le_of_ble_eq_true rfl, ?_⟩
    refine ⟨_, ld 2 rfl rfl, ?_⟩
    refine ⟨rfl, rfl, 2, rfl, rfl, Nat.le_of_ble_eq_true rfl, ?_⟩
    refine ⟨[3, 0, 1, 0], _, dfrU_ok _ g b1 b2 b3 _ _ _ _ _ err, ?_⟩
    rintro h' rfl
    refine ⟨_, ent_after _ _ _ _ _ hx, ?_⟩
    by_cases herr : err = 0
    · subst herr
      refine ⟨_, ld 2 rfl rfl, ?_⟩
      refine ⟨_, (Ent.perm (List.perm_append_comm (l₁ := [_, _]) (l₂ := _ :: hx))).trans ((Ent.dropr [_] (hx ++ [_, _])).trans (Ent.perm List.perm_append_comm)), .inr ⟨rfl, x, 0, off', _, hx, hD, .inl ⟨rfl, rfl, ⟨A', k', cap', xs', rfl, hk', hxs', hg'⟩, rfl⟩⟩⟩
    · rw [if_neg herr, if_neg herr]
      refine ⟨_, ld 2 rfl rfl, ?_⟩
      exact ⟨_, Ent.drop [_, _] (_ :: hx), .inr ⟨rfl, x, err, off', [], hx, hD, .inr ⟨herr, rfl, A', k', cap', xs', rfl, hk', hxs', hg'⟩⟩⟩

theorem dfrB_ok (R : Rd) (g b1 b2 b3 : Nat) (sl val : Value) (off last s e : Int) :
    FnD Try.prog 62 [.pointer (some ⟨b3, 0, .none⟩), .pointer (some ⟨b1, 0, .none⟩), .pointer (some ⟨b2, 0, .none⟩)]
      [.blk g 70 [sl, .int .i64 off, .int .i64 last, .int .i64 e], .blk b1 49 [.pointer (some ⟨g, 0, .none⟩)], .blk b2 4 [val], .blk b3 3 [.int .i64 s]] R
      (fun h' => h' = [.blk g 70 [sl, .int .i64 (if e = 0 then off else s), .int .i64 s, .int .i64 e], .blk b1 49 [.pointer (some ⟨g, 0, .none⟩)], .blk b2 4 [if e = 0 then val else Value.bool false], .blk b3 3 [.int .i64 s]]) := by
  refine fnD_of_vc mixed tabOk Try.func62 rfl (by kernel_rfl) (Nat.le_of_ble_eq_true rfl) rfl ?_
  refine ⟨_, ld 1 rfl rfl, ?_⟩
  refine ⟨_, ld 3 rfl rfl, ?_⟩
  refine ⟨rfl, rfl, 0, rfl, rfl, Nat.le_of_ble_eq_true rfl, ?_⟩
  refine ⟨_, ld 1 rfl rfl, ?_⟩
  refine ⟨_, ld 0 rfl rfl, ?_⟩
  refine ⟨fun he => ?_, fun he => ?_⟩
  · have he : ¬ e = 0 := by simpa using he
    refine ⟨_, ld 1 rfl rfl, ?_⟩
    refine ⟨_, ld 3 rfl rfl, ?_⟩
    refine ⟨rfl, rfl, 0, rfl, rfl, Nat.le_of_ble_eq_true rfl, ?_⟩
    refine ⟨rfl, rfl, 2, rfl, rfl, Nat.le_of_ble_eq_true rfl, ?_⟩
    refine ⟨rfl, _, Ent.refl _, ?_⟩
    rw [if_neg he, if_neg he]
    rfl
  · have he : e = 0 := by simpa using he
    refine ⟨rfl, _, Ent.refl _, ?_⟩
    rw [if_pos he, if_pos he]
    rfl

set_option maxHeartbeats 4000000 in
theorem rvB_ok (R : Rd) (g : Nat) (data : List UInt8) (off last : Nat) (e : Int) (h : Hp) (hr : IsR g data off last e h) (fd : FuncId) (cs : List Value) (D : Bool → Int → Nat → Hp → Prop)
    (hdec : e = 0 → ∀ (R' : Rd) (h1 : Hp), (∀ a v, R a v → R' a v) → IsR g data off last 0 h1 → Fn Try.prog fd ([] ++ cs) h1 R' (fun v h' => ∃ (x : Bool) (err : Int) (off' : Nat) (h2 hx : Hp), v = .tuple ⟨[Value.bool x, .int .i64 err]⟩ ∧ IsR g data off' last 0 h2 ∧ h' = h2 ++ hx ∧ D x err off' hx)) :
    Fn Try.prog 47 [.pointer (some ⟨g, 0, .none⟩), .func (.func fd) ⟨[]⟩ ⟨cs⟩] h R (fun v h' =>
      (e ≠ 0 ∧ v = Value.bool false ∧ IsR g data off last e h') ∨
      (e = 0 ∧ ∃ (x : Bool) (err : Int) (off' : Nat) (h2 hx : Hp), D x err off' hx ∧ ((err = 0 ∧ v = Value.bool x ∧ IsR g data off' off 0 h2 ∧ h' = h2 ++ hx) ∨ (err ≠ 0 ∧ v = Value.bool false ∧ IsR g data off off err h')))) := by
  obtain ⟨A, k, cap, xs, rfl, hk, hxs, hg⟩ := hr
  refine fn_of_vc mixed tabOk Try.func47 rfl (by kernel_rfl) (Nat.le_of_ble_eq_true rfl) ?_
  intro b1 b2
  refine ⟨_, ld 2 rfl rfl, ?_⟩
  refine ⟨_, ld 0 rfl rfl, ?_⟩
  refine ⟨fun he => ?_, fun he => ?_⟩
  · have he : ¬ e = 0 := by simpa using he
    refine ⟨_, ld 3 rfl rfl, ?_⟩
    refine ⟨rfl, rfl, 3, rfl, rfl, Nat.le_of_ble_eq_true rfl, ?_⟩
    refine ⟨_, ld 3 rfl rfl, ?_⟩
    exact ⟨_, Ent.drop [_, _] [_, _], .inl ⟨he, rfl, A, k, cap, xs, rfl, hk, hxs, hg⟩⟩
  · have he : e = 0 := by simpa using he
    subst he
    refine ⟨_, ld 2 rfl rfl, ?_⟩
    refine ⟨_, ld 0 rfl rfl, ?_⟩
    intro b3
    refine ⟨rfl, rfl, 4, rfl, rfl, Nat.le_of_ble_eq_true rfl, ?_⟩
    refine ⟨[2, 3], (.q 0 (.q 1 (.one 2 (.q 3 (.q 4 (.q 5 (.one 6 (.q 7 (.q 8 (.one 9 .nil)))))))))), by kernel_rfl, ?_⟩
    refine ⟨_, ld 0 rfl rfl, ?_⟩
    refine ⟨[0, 0], _, hdec rfl _ _ (fun a v h => .inl (.inl h)) ⟨A, k, cap, xs, rfl, hk, hxs, hg⟩, ?_⟩
    rintro v' h' ⟨x, err, off', h2, hx, rfl, ⟨A', k', cap', xs', rfl, hk', hxs', hg'⟩, rfl, hD⟩
    refine ⟨rfl, rfl, 0, rfl, rfl, Nat.le_of_ble_eq_true rfl, ?_⟩
    refine ⟨rfl, rfl, 1, rfl, rfl, Nat.le_of_ble_eq_true rfl, ?_⟩
    refine ⟨_, ld 2 rfl rfl, ?_⟩
    refine ⟨rfl, rfl, 2, rfl, rfl, Nat.le_of_ble_eq_true rfl, ?_⟩
    refine ⟨[3, 0, 1, 0], _, dfrB_ok _ g b1 b2 b3 _ _ _ _ _ err, ?_⟩
    rintro h' rfl
    refine ⟨_, ent_after _ _ _ _ _ hx, ?_⟩
    by_cases herr : err = 0
    · subst herr
      refine ⟨_, ld 2 rfl rfl, ?_⟩
      refine ⟨_, (Ent.perm (List.perm_append_comm (l₁ := [_, _]) (l₂ := _ :: hx))).trans ((Ent.dropr [_] (hx ++ [_, _])).trans (Ent.perm List.perm_append_comm)), .inr ⟨rfl, x, 0, off', _, hx, hD, .inl ⟨rfl, rfl, ⟨A', k', cap', xs', rfl, hk', hxs', hg'⟩, rfl⟩⟩⟩
    · rw [if_neg herr, if_neg herr]
      refine ⟨_, ld 2 rfl rfl, ?_⟩
      exact ⟨_, Ent.drop [_, _] (_ :: hx), .inr ⟨rfl, x, err, off', [], hx, hD, .inr ⟨herr, rfl, A', k', cap', xs', rfl, hk', hxs', hg'⟩⟩⟩

theorem dfrS_ok (R : Rd) (g b1 b2 b3 : Nat) (sl val : Value) (off last s e : Int) :
    FnD Try.prog 70 [.pointer (some ⟨b3, 0, .none⟩), .pointer (some ⟨b1, 0, .none⟩), .pointer (some ⟨b2, 0, .none⟩)]
      [.blk g 70 [sl, .int .i64 off, .int .i64 last, .int .i64 e], .blk b1 49 [.pointer (some ⟨g, 0, .none⟩)], .blk b2 9 [val], .blk b3 3 [.int .i64 s]] R
      (fun h' => h' = [.blk g 70 [sl, .int .i64 (if e = 0 then off else s), .int .i64 s, .int .i64 e], .blk b1 49 [.pointer (some ⟨g, 0, .none⟩)], .blk b2 9 [if e = 0 then val else Value.string ⟨#[]⟩], .blk b3 3 [.int .i64 s]]) := by
  refine fnD_of_vc mixed tabOk Try.func70 rfl (by kernel_rfl) (Nat.le_of_ble_eq_true rfl) rfl ?_
  refine ⟨_, ld 1 rfl rfl, ?_⟩
  refine ⟨_, ld 3 rfl rfl, ?_⟩
  refine ⟨rfl, rfl, 0, rfl, rfl, Nat.le_of_ble_eq_true rfl, ?_⟩
  refine ⟨_, ld 1 rfl rfl, ?_⟩
  refine ⟨_, ld 0 rfl rfl, ?_⟩
  refine ⟨fun he => ?_, fun he => ?_⟩
  · have he : ¬ e = 0 := by simpa using he
    refine ⟨_, ld 1 rfl rfl, ?_⟩
    refine ⟨_, ld 3 rfl rfl, ?_⟩
    refine ⟨rfl, rfl, 0, rfl, rfl, Nat.le_of_ble_eq_true rfl, ?_⟩
    refine ⟨rfl, rfl, 2, rfl, rfl, Nat.le_of_ble_eq_true rfl, ?_⟩
    refine ⟨rfl, _, Ent.refl _, ?_⟩
    rw [if_neg he, if_neg he]
    rfl
  · have he : e = 0 := by simpa using he
    refine ⟨rfl, _, Ent.refl _, ?_⟩
    rw [if_pos he, if_pos he]
    rfl

set_option maxHeartbeats 4000000 in
theorem rvS_ok (R : Rd) (g : Nat) (data : List UInt8) (off last : Nat) (e : Int) (h : Hp) (hr : IsR g data off last e h) (fd : FuncId) (cs : List Value) (D : ByteArray → Int → Nat → Hp → Prop)
    (hdec : e = 0 → ∀ (R' : Rd) (h1 : Hp), (∀ a v, R a v → R' a v) → IsR g data off last 0 h1 → Fn Try.prog fd ([] ++ cs) h1 R' (fun v h' => ∃ (x : ByteArray) (err : Int) (off' : Nat) (h2 hx : Hp), v = .tuple ⟨[Value.string x, .int .i64 err]⟩ ∧ IsR g data off' last 0 h2 ∧ h' = h2 ++ hx ∧ D x err off' hx)) :
    Fn Try.prog 63 [.pointer (some ⟨g, 0, .none⟩), .func (.func fd) ⟨[]⟩ ⟨cs⟩] h R (fun v h' =>
      (e ≠ 0 ∧ v = Value.string ⟨#[]⟩ ∧ IsR g data off last e h') ∨
      (e = 0 ∧ ∃ (x : ByteArray) (err : Int) (off' : Nat) (h2 hx : Hp), D x err off' hx ∧ ((err = 0 ∧ v = Value.string x ∧ IsR g data off' off 0 h2 ∧ h' = h2 ++ hx) ∨ (err ≠ 0 ∧ v = Value.string ⟨#[]⟩ ∧ IsR g data off off err h')))) := by
  obtain ⟨A, k, cap, xs, rfl, hk, hxs, hg⟩ := hr
  refine fn_of_vc mixed tabOk Try.func63 rfl (by kernel_rfl) (Nat.le_of_ble_eq_true rfl) ?_
  intro b1 b2
  refine ⟨_, ld 2 rfl rfl, ?_⟩
  refine ⟨_, ld 0 rfl rfl, ?_⟩
  refine ⟨fun he => ?_, fun he => ?_⟩
  · have he : ¬ e = 0 := by simpa using he
    refine ⟨_, ld 3 rfl rfl, ?_⟩
    refine ⟨rfl, rfl, 3, rfl, rfl, Nat.le_of_ble_eq_true rfl, ?_⟩
    refine ⟨_, ld 3 rfl rfl, ?_⟩
    exact ⟨_, Ent.drop [_, _] [_, _], .inl ⟨he, rfl, A, k, cap, xs, rfl, hk, hxs, hg⟩⟩
  · have he : e = 0 := by simpa using he
    subst he
    refine ⟨_, ld 2 rfl rfl, ?_⟩
    refine ⟨_, ld 0 rfl rfl, ?_⟩
    intro b3
    refine ⟨rfl, rfl, 4, rfl, rfl, Nat.le_of_ble_eq_true rfl, ?_⟩
    refine ⟨[2, 3], (.q 0 (.q 1 (.one 2 (.q 3 (.q 4 (.q 5 (.one 6 (.q 7 (.q 8 (.one 9 .nil)))))))))), by kernel_rfl, ?_⟩
    refine ⟨_, ld 0 rfl rfl, ?_⟩
    refine ⟨[0, 0], _, hdec rfl _ _ (fun a v h => .inl (.inl h)) ⟨A, k, cap, xs, rfl, hk, hxs, hg⟩, ?_⟩
    rintro v' h' ⟨x, err, off', h2, hx, rfl, ⟨A', k', cap', xs', rfl, hk', hxs', hg'⟩, rfl, hD⟩
    refine ⟨rfl, rfl, 0, rfl, rfl, Nat.le_of_ble_eq_true rfl, ?_⟩
    refine ⟨rfl, rfl, 1, rfl, rfl, Nat.le_of_ble_eq_true rfl, ?_⟩
    refine ⟨_, ld 2 rfl rfl, ?_⟩
    refine ⟨rfl, rfl, 2, rfl, rfl, Nat.le_of_ble_eq_true rfl, ?_⟩
    refine ⟨[3, 0, 1, 0], _, dfrS_ok _ g b1 b2 b3 _ _ _ _ _ err, ?_⟩
    rintro h' rfl
    refine ⟨_, ent_after _ _ _ _ _ hx, ?_⟩
    by_cases herr : err = 0
    · subst herr
      refine ⟨_, ld 2 rfl rfl, ?_⟩
      refine ⟨_, (Ent.perm (List.perm_append_comm (l₁ := [_, _]) (l₂ := _ :: hx))).trans ((Ent.dropr [_] (hx ++ [_, _])).trans (Ent.perm List.perm_append_comm)), .inr ⟨rfl, x, 0, off', _, hx, hD, .inl ⟨rfl, rfl, ⟨A', k', cap', xs', rfl, hk', hxs', hg'⟩, rfl⟩⟩⟩
    · rw [if_neg herr, if_neg herr]
      refine ⟨_, ld 2 rfl rfl, ?_⟩
      exact ⟨_, Ent.drop [_, _] (_ :: hx), .inr ⟨rfl, x, err, off', [], hx, hD, .inr ⟨herr, rfl, A', k', cap', xs', rfl, hk', hxs', hg'⟩⟩⟩

theorem dfrI_ok (R : Rd) (g b1 b2 b3 : Nat) (sl val : Value) (off last s e : Int) :
    FnD Try.prog 71 [.pointer (some ⟨b3, 0, .none⟩), .pointer (some ⟨b1, 0, .none⟩), .pointer (some ⟨b2, 0, .none⟩)]
      [.blk g 70 [sl, .int .i64 off, .int .i64 last, .int .i64 e], .blk b1 49 [.pointer (some ⟨g, 0, .none⟩)], .blk b2 3 [val], .blk b3 3 [.int .i64 s]] R
      (fun h' => h' = [.blk g 70 [sl, .int .i64 (if e = 0 then off else s), .int .i64 s, .int .i64 e], .blk b1 49 [.pointer (some ⟨g, 0, .none⟩)], .blk b2 3 [if e = 0 then val else Value.int .i64 0], .blk b3 3 [.int .i64 s]]) := by
  refine fnD_of_vc mixed tabOk Try.func71 rfl (by kernel_rfl) (Nat.le_of_ble_eq_true rfl) rfl ?_
  refine ⟨_, ld 1 rfl rfl, ?_⟩
  refine ⟨_, ld 3 rfl rfl, ?_⟩
  refine ⟨rfl, rfl, 0, rfl, rfl, Nat.le_of_ble_eq_true rfl, ?_⟩
  refine ⟨_, ld 1 rfl rfl, ?_⟩
  refine ⟨_, ld 0 rfl rfl, ?_⟩
  refine ⟨fun he => ?_, fun he => ?_⟩
  · have he : ¬ e = 0 := by simpa using he
    refine ⟨_, ld 1 rfl rfl, ?_⟩
    refine ⟨_, ld 3 rfl rfl, ?_⟩
    refine ⟨rfl, rfl, 0, rfl, rfl, Nat.le_of_ble_eq_true rfl, ?_⟩
    refine ⟨rfl, rfl, 2, rfl, rfl, Nat.le_of_ble_eq_true rfl, ?_⟩
    refine ⟨rfl, _, Ent.refl _, ?_⟩
    rw [if_neg he, if_neg he]
    rfl
  · have he : e = 0 := by simpa using he
    refine ⟨rfl, _, Ent.refl _, ?_⟩
    rw [if_pos he, if_pos he]
    rfl

set_option maxHeartbeats 4000000 in
theorem rvI_ok (R : Rd) (g : Nat) (data : List UInt8) (off last : Nat) (e : Int) (h : Hp) (hr : IsR g data off last e h) (fd : FuncId) (cs : List Value) (D : Int → Int → Nat → Hp → Prop)
    (hdec : e = 0 → ∀ (R' : Rd) (h1 : Hp), (∀ a v, R a v → R' a v) → IsR g data off last 0 h1 → Fn Try.prog fd ([] ++ cs) h1 R' (fun v h' => ∃ (x : Int) (err : Int) (off' : Nat) (h2 hx : Hp), v = .tuple ⟨[Value.int .i64 x, .int .i64 err]⟩ ∧ IsR g data off' last 0 h2 ∧ h' = h2 ++ hx ∧ D x err off' hx)) :
    Fn Try.prog 66 [.pointer (some ⟨g, 0, .none⟩), .func (.func fd) ⟨[]⟩ ⟨cs⟩] h R (fun v h' =>
      (e ≠ 0 ∧ v = Value.int .i64 0 ∧ IsR g data off last e h') ∨
      (e = 0 ∧ ∃ (x : Int) (err : Int) (off' : Nat) (h2 hx : Hp), D x err off' hx ∧ ((err = 0 ∧ v = Value.int .i64 x ∧ IsR g data off' off 0 h2 ∧ h' = h2 ++ hx) ∨ (err ≠ 0 ∧ v = Value.int .i64 0 ∧ IsR g data off off err h')))) := by
  obtain ⟨A, k, cap, xs, rfl, hk, hxs, hg⟩ := hr
  refine fn_of_vc mixed tabOk Try.func66 rfl (by kernel_rfl) (Nat.le_of_ble_eq_true rfl) ?_
  intro b1 b2
  refine ⟨_, ld 2 rfl rfl, ?_⟩
  refine ⟨_, ld 0 rfl rfl, ?_⟩
  refine ⟨fun he => ?_, fun he => ?_⟩
  · have he : ¬ e = 0 := by simpa using he
    refine ⟨_, ld 3 rfl rfl, ?_⟩
    refine ⟨rfl, rfl, 3, rfl, rfl, Nat.le_of_ble_eq_true rfl, ?_⟩
    refine ⟨_, ld 3 rfl rfl, ?_⟩
    exact ⟨_, Ent.drop [_, _] [_, _], .inl ⟨he, rfl, A, k, cap, xs, rfl, hk, hxs, hg⟩⟩
  · have he : e = 0 := by simpa using he
    subst he
    refine ⟨_, ld 2 rfl rfl, ?_⟩
    refine ⟨_, ld 0 rfl rfl, ?_⟩
    intro b3
    refine ⟨rfl, rfl, 4, rfl, rfl, Nat.le_of_ble_eq_true rfl, ?_⟩
    refine ⟨[2, 3], (.q 0 (.q 1 (.one 2 (.q 3 (.q 4 (.q 5 (.one 6 (.q 7 (.q 8 (.one 9 .nil)))))))))), by kernel_rfl, ?_⟩
    refine ⟨_, ld 0 rfl rfl, ?_⟩
    refine ⟨[0, 0], _, hdec rfl _ _ (fun a v h => .inl (.inl h)) ⟨A, k, cap, xs, rfl, hk, hxs, hg⟩, ?_⟩
    rintro v' h' ⟨x, err, off', h2, hx, rfl, ⟨A', k', cap', xs', rfl, hk', hxs', hg'⟩, rfl, hD⟩
    refine ⟨rfl, rfl, 0, rfl, rfl, Nat.le_of_ble_eq_true rfl, ?_⟩
    refine ⟨rfl, rfl, 1, rfl, rfl, Nat.le_of_ble_eq_true rfl, ?_⟩
    refine ⟨_, ld 2 rfl rfl, ?_⟩
    refine ⟨rfl, rfl, 2, rfl, rfl, Nat.le_of_ble_eq_true rfl, ?_⟩
    refine ⟨[3, 0, 1, 0], _, dfrI_ok _ g b1 b2 b3 _ _ _ _ _ err, ?_⟩
    rintro h' rfl
    refine ⟨_, ent_after _ _ _ _ _ hx, ?_⟩
    by_cases herr : err = 0
    · subst herr
      refine ⟨_, ld 2 rfl rfl, ?_⟩
      refine ⟨_, (Ent.perm (List.perm_append_comm (l₁ := [_, _]) (l₂ := _ :: hx))).trans ((Ent.dropr [_] (hx ++ [_, _])).trans (Ent.perm List.perm_append_comm)), .inr ⟨rfl, x, 0, off', _, hx, hD, .inl ⟨rfl, rfl, ⟨A', k', cap', xs', rfl, hk', hxs', hg'⟩, rfl⟩⟩⟩
    · rw [if_neg herr, if_neg herr]
      refine ⟨_, ld 2 rfl rfl, ?_⟩
      exact ⟨_, Ent.drop [_, _] (_ :: hx), .inr ⟨rfl, x, err, off', [], hx, hD, .inr ⟨herr, rfl, A', k', cap', xs', rfl, hk', hxs', hg'⟩⟩⟩

theorem dfrY_ok (R : Rd) (g b1 b2 b3 : Nat) (sl val : Value) (off last s e : Int) :
    FnD Try.prog 59 [.pointer (some ⟨b3, 0, .none⟩), .pointer (some ⟨b1, 0, .none⟩), .pointer (some ⟨b2, 0, .none⟩)]
      [.blk g 70 [sl, .int .i64 off, .int .i64 last, .int .i64 e], .blk b1 49 [.pointer (some ⟨g, 0, .none⟩)], .blk b2 22 [val], .blk b3 3 [.int .i64 s]] R
      (fun h' => h' = [.blk g 70 [sl, .int .i64 (if e = 0 then off else s), .int .i64 s, .int .i64 e], .blk b1 49 [.pointer (some ⟨g, 0, .none⟩)], .blk b2 22 [if e = 0 then val else Value.slice .none 0 0], .blk b3 3 [.int .i64 s]]) := by
  refine fnD_of_vc mixed tabOk Try.func59 rfl (by kernel_rfl) (Nat.le_of_ble_eq_true rfl) rfl ?_
  refine ⟨_, ld 1 rfl rfl, ?_⟩
  refine ⟨_, ld 3 rfl rfl, ?_⟩
  refine ⟨rfl, rfl, 0, rfl, rfl, Nat.le_of_ble_eq_true rfl, ?_⟩
  refine ⟨_, ld 1 rfl rfl, ?_⟩
  refine ⟨_, ld 0 rfl rfl, ?_⟩
  refine ⟨fun he => ?_, fun he => ?_⟩
  · have he : ¬ e = 0 := by simpa using he
    refine ⟨_, ld 1 rfl rfl, ?_⟩
    refine ⟨_, ld 3 rfl rfl, ?_⟩
    refine ⟨rfl, rfl, 0, rfl, rfl, Nat.le_of_ble_eq_true rfl, ?_⟩
    refine ⟨rfl, rfl, 2, rfl, rfl, Nat.le_of_ble_eq_true rfl, ?_⟩
    refine ⟨rfl, _, Ent.refl _, ?_⟩
    rw [if_neg he, if_neg he]
    rfl
  · have he : e = 0 := by simpa using he
    refine ⟨rfl, _, Ent.refl _, ?_⟩
    rw [if_pos he, if_pos he]
    rfl

set_option maxHeartbeats 4000000 in
theorem rvY_ok (R : Rd) (g : Nat) (data : List UInt8) (off last : Nat) (e : Int) (h : Hp) (hr : IsR g data off last e h) (fd : FuncId) (cs : List Value) (D : Option Addr × Nat × Nat → Int → Nat → Hp → Prop)
    (hdec : e = 0 → ∀ (R' : Rd) (h1 : Hp), (∀ a v, R a v → R' a v) → IsR g data off last 0 h1 → Fn Try.prog fd ([] ++ cs) h1 R' (fun v h' => ∃ (x : Option Addr × Nat × Nat) (err : Int) (off' : Nat) (h2 hx : Hp), v = .tuple ⟨[Value.slice x.1 x.2.1 x.2.2, .int .i64 err]⟩ ∧ IsR g data off' last 0 h2 ∧ h' = h2 ++ hx ∧ D x err off' hx)) :
    Fn Try.prog 44 [.pointer (some ⟨g, 0, .none⟩), .func (.func fd) ⟨[]⟩ ⟨cs⟩] h R (fun v h' =>
      (e ≠ 0 ∧ v = Value.slice .none 0 0 ∧ IsR g data off last e h') ∨
      (e = 0 ∧ ∃ (x : Option Addr × Nat × Nat) (err : Int) (off' : Nat) (h2 hx : Hp), D x err off' hx ∧ ((err = 0 ∧ v = Value.slice x.1 x.2.1 x.2.2 ∧ IsR g data off' off 0 h2 ∧ h' = h2 ++ hx) ∨ (err ≠ 0 ∧ v = Value.slice .none 0 0 ∧ IsR g data off off err h')))) := by
  obtain ⟨A, k, cap, xs, rfl, hk, hxs, hg⟩ := hr
  refine fn_of_vc mixed tabOk Try.func44 rfl (by kernel_rfl) (Nat.le_of_ble_eq_true rfl) ?_
  intro b1 b2
  refine ⟨_, ld 2 rfl rfl, ?_⟩
  refine ⟨_, ld 0 rfl rfl, ?_⟩
  refine ⟨fun he => ?_, fun he => ?_⟩
  · have he : ¬ e = 0 := by simpa using he
    refine ⟨_, ld 3 rfl rfl, ?_⟩
    refine ⟨rfl, rfl, 3, rfl, rfl, Nat.le_of_ble_eq_true rfl, ?_⟩
    refine ⟨_, ld 3 rfl rfl, ?_⟩
    exact ⟨_, Ent.drop [_, _] [_, _], .inl ⟨he, rfl, A, k, cap, xs, rfl, hk, hxs, hg⟩⟩
  · have he : e = 0 := by simpa using he
    subst he
    refine ⟨_, ld 2 rfl rfl, ?_⟩
    refine ⟨_, ld 0 rfl rfl, ?_⟩
    intro b3
    refine ⟨rfl, rfl, 4, rfl, rfl, Nat.le_of_ble_eq_true rfl, ?_⟩
    refine ⟨[2, 3], (.q 0 (.q 1 (.one 2 (.q 3 (.q 4 (.q 5 (.one 6 (.q 7 (.q 8 (.one 9 .nil)))))))))), by kernel_rfl, ?_⟩
    refine ⟨_, ld 0 rfl rfl, ?_⟩
    refine ⟨[0, 0], _, hdec rfl _ _ (fun a v h => .inl (.inl h)) ⟨A, k, cap, xs, rfl, hk, hxs, hg⟩, ?_⟩
    rintro v' h' ⟨x, err, off', h2, hx, rfl, ⟨A', k', cap', xs', rfl, hk', hxs', hg'⟩, rfl, hD⟩
    refine ⟨rfl, rfl, 0, rfl, rfl, Nat.le_of_ble_eq_true rfl, ?_⟩
    refine ⟨rfl, rfl, 1, rfl, rfl, Nat.le_of_ble_eq_true rfl, ?_⟩
    refine ⟨_, ld 2 rfl rfl, ?_⟩
    refine ⟨rfl, rfl, 2, rfl, rfl, Nat.le_of_ble_eq_true rfl, ?_⟩
    refine ⟨[3, 0, 1, 0], _, dfrY_ok _ g b1 b2 b3 _ _ _ _ _ err, ?_⟩
    rintro h' rfl
    refine ⟨_, ent_after _ _ _ _ _ hx, ?_⟩
    by_cases herr : err = 0
    · subst herr
      refine ⟨_, ld 2 rfl rfl, ?_⟩
      refine ⟨_, (Ent.perm (List.perm_append_comm (l₁ := [_, _]) (l₂ := _ :: hx))).trans ((Ent.dropr [_] (hx ++ [_, _])).trans (Ent.perm List.perm_append_comm)), .inr ⟨rfl, x, 0, off', _, hx, hD, .inl ⟨rfl, rfl, ⟨A', k', cap', xs', rfl, hk', hxs', hg'⟩, rfl⟩⟩⟩
    · rw [if_neg herr, if_neg herr]
      refine ⟨_, ld 2 rfl rfl, ?_⟩
      exact ⟨_, Ent.drop [_, _] (_ :: hx), .inr ⟨rfl, x, err, off', [], hx, hD, .inr ⟨herr, rfl, A', k', cap', xs', rfl, hk', hxs', hg'⟩⟩⟩

end Go.Proofs.Ytknilabilihlnaa
