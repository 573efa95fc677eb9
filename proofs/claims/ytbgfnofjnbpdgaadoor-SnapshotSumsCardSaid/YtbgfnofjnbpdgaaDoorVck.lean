/-
  Small words for the contracts: numbers without wraps, bytes in memory, slices that are read, slices of the call's own.
-/
import Derived.Test.YtbgfnofjnbpdgaaDoorVcj
namespace Go.Proofs.YtbgfnofjnbpdgaaDoor
open Go Go.RowKit

theorem wr_i64 {z x : Int} (h : z = IntKind.i64.wrap x) (h1 : -9223372036854775808 ≤ x) (h2 : x ≤ 9223372036854775807) : z = x := by rw [h, IntKind.wrap_i64]; omega
theorem wr_u64 {z x : Int} (h : z = IntKind.u64.wrap x) (h1 : 0 ≤ x) (h2 : x ≤ 18446744073709551615) : z = x := by rw [h, IntKind.wrap_u64]; omega
theorem wr_u32 {z x : Int} (h : z = IntKind.u32.wrap x) (h1 : 0 ≤ x) (h2 : x ≤ 4294967295) : z = x := by rw [h, IntKind.wrap_u32]; omega
theorem wr_u8 {z x : Int} (h : z = IntKind.u8.wrap x) (h1 : 0 ≤ x) (h2 : x ≤ 255) : z = x := by rw [h, IntKind.wrap_u8]; omega
theorem maxLen_eq : maxLen = 9223372036854775807 := by simp [maxLen]
theorem shr_7 {z : Int} {m : Nat} (h : z = (m : Int).fdiv (2 ^ min (Int.toNat 7) IntKind.u64.bits)) : z = ((m / 128 : Nat) : Int) := by
  have e : ((2 : Int) ^ min (Int.toNat 7) IntKind.u64.bits) = 128 := by simp [IntKind.bits]
  rw [h, e, Int.fdiv_eq_ediv_of_nonneg _ (by omega)]
  omega

/-- Bytes as cells. -/
def BV (l : List UInt8) : List Value := l.map fun b => .int .u8 b.toNat
theorem BV_append (a b : List UInt8) : BV (a ++ b) = BV a ++ BV b := by simp [BV]
theorem BV_length (l : List UInt8) : (BV l).length = l.length := by simp [BV]
theorem BV_one (l : List UInt8) : allOne (BV l) = true := allOne_of fun u hu => by
  obtain ⟨b, _, rfl⟩ := List.mem_map.1 hu; rfl
theorem BV_get {l : List UInt8} {j : Nat} {b : UInt8} (h : l[j]? = some b) : (BV l)[j]? = some (.int .u8 b.toNat) := by simp [BV, h]
theorem BV_inj : ∀ {a b : List UInt8}, BV a = BV b → a = b
  | [], [], _ => rfl
  | [], _ :: _, h => by simp [BV] at h
  | _ :: _, [], h => by simp [BV] at h
  | x :: a, y :: b, h => by
    simp only [BV, List.map_cons, List.cons.injEq, Value.int.injEq, true_and] at h
    have : x = y := UInt8.toNat.inj (by omega)
    rw [this, BV_inj (a := a) (b := b) h.2]
theorem byte_of {z : Int} (h0 : 0 ≤ z) (h1 : z ≤ 255) : z = ((UInt8.ofNat z.toNat).toNat : Int) := by
  simp only [UInt8.toNat_ofNat']
  omega
theorem BV_singleton {z : Int} (h0 : 0 ≤ z) (h1 : z ≤ 255) : [Value.int .u8 z] = BV [UInt8.ofNat z.toNat] := by
  simp only [BV, List.map_cons, List.map_nil]
  rw [← byte_of h0 h1]

/-- a cell of a known block -/
theorem ld {R : Rd} {h : Hp} (i : Nat) {g : Nat} {t : TypeId} {cs : List Value} {o : Nat} {v : Value} (hi : h[i]? = some (.blk g t cs)) (hc : cs[o]? = some v) : RH R h ⟨g, o, .none⟩ v :=
  .inr ⟨_, List.mem_of_getElem? hi, rfl, rfl, hc⟩
/-- a cell of a row of the call's own -/
theorem ldr {R : Rd} {h : Hp} (i : Nat) {g : Nat} {n cap : Nat} {e : TypeId} {sz : Nat} {xs : List Value} {fz : Nat × Nat} {o : Nat} {v : Value} (hi : h[i]? = some (.row (some ⟨g, 0, .none⟩) n cap e sz xs fz)) (hc : xs[o]? = some v) : RH R h ⟨g, o, .none⟩ v :=
  .inr ⟨_, List.mem_of_getElem? hi, rfl, rfl, hc⟩
theorem ro {R : Rd} {h : Hp} {a : Addr} {v : Value} (hr : R a v) : RH R h a v := .inl hr

theorem add_zero_addr (g j : Nat) : (⟨g, 0, .none⟩ : Addr).add j = ⟨g, j, .none⟩ := by rw [addA_eq]; cases j <;> simp [addA]

/-- all cells of a row of the call's own -/
theorem rdRow {R : Rd} {h : Hp} (i : Nat) {g : Nat} {n cap : Nat} {e : TypeId} {sz : Nat} {xs : List Value} {fz : Nat × Nat} (hi : h[i]? = some (.row (some ⟨g, 0, .none⟩) n cap e sz xs fz)) :
    ∀ j u, xs[j]? = some u → ∃ a, (some (⟨g, 0, .none⟩ : Addr)) = some a ∧ RH R h (a.add j) u := fun j u hu =>
  ⟨_, rfl, by rw [add_zero_addr]; exact ldr i hi hu⟩

/-- A slice value that reads as these cells ('sz' cells an element, 'n' elements). -/
def SlR (R : Rd) (sz : Nat) (v : Value) (n : Nat) (xs : List Value) : Prop :=
  xs.length = n * sz ∧ ∃ A cap, v = .slice A n cap ∧ ∀ j u, xs[j]? = some u → ∃ a, A = some a ∧ R (a.add j) u
theorem SlR.mono {R R' : Rd} {sz n : Nat} {v : Value} {xs : List Value} (h : SlR R sz v n xs) (hr : ∀ a v, R a v → R' a v) : SlR R' sz v n xs := by
  obtain ⟨hl, A, cap, rfl, h⟩ := h
  exact ⟨hl, A, cap, rfl, fun j u hu => by obtain ⟨a, ha, hR⟩ := h j u hu; exact ⟨a, ha, hr _ _ hR⟩⟩
theorem SlR.rh {R : Rd} {sz n : Nat} {v : Value} {xs : List Value} (h : SlR R sz v n xs) (hp : Hp) : SlR (RH R hp) sz v n xs := h.mono fun _ _ => .inl

/-- Bytes that can be read. -/
def BsR (R : Rd) (v : Value) (l : List UInt8) : Prop := SlR R 1 v l.length (BV l)
theorem BsR.rh {R : Rd} {v : Value} {l : List UInt8} (h : BsR R v l) (hp : Hp) : BsR (RH R hp) v l := SlR.rh h hp

/-- A slice of the call's own, and the memory that it has. -/
def OwnS (e : TypeId) (sz : Nat) (v : Value) (n : Nat) (cells : List Value) (h : Hp) : Prop :=
  ∃ A cap, v = .slice A n cap ∧ h = [.row A n cap e sz cells (0, 0)] ∧ grow n A

theorem growA {n : Nat} {A : Option Addr} (h : grow n A) (hn : 0 < n) : ∃ g, A = some ⟨g, 0, .none⟩ := by
  rcases h with h | h
  · omega
  · exact h

/-- The row of a slice of the call's own can be read. -/
theorem SlR.own {R : Rd} {h : Hp} (i : Nat) {A : Option Addr} {n cap : Nat} {e : TypeId} {sz : Nat} {xs : List Value} {fz : Nat × Nat} (hi : h[i]? = some (.row A n cap e sz xs fz)) (hl : xs.length = n * sz) (hg : grow n A) : SlR (RH R h) sz (.slice A n cap) n xs := by
  refine ⟨hl, A, cap, rfl, fun j u hu => ?_⟩
  have hlt := (List.getElem?_eq_some_iff.1 hu).1
  have hn : 0 < n := by
    rcases Nat.eq_zero_or_pos n with h0 | h0
    · subst h0; omega
    · exact h0
  obtain ⟨g, rfl⟩ := growA hg hn
  exact ⟨_, rfl, by rw [add_zero_addr]; exact ldr i hi hu⟩

/-- The order of the text, all operations. -/
def lexT : Nat → Nat → OT
  | _, 0 => .nil
  | k, n + 1 => .q k (lexT (k + 1) n)

theorem bor128 : ∀ x : Nat, x < 256 → bitsOp .or .u8 (x : Int) 128 = ((x % 128 + 128 : Nat) : Int) := by
  intro x hx
  have h : ∀ x : Fin 256, bitsOp .or .u8 (x.val : Int) 128 = ((x.val % 128 + 128 : Nat) : Int) := by decide +kernel
  exact h ⟨x, hx⟩

theorem ld1 {R : Rd} {a : Addr} {i : Nat} {v : Value} (h : R (a.add i) v) : R (addA a (Int.toNat (i : Int) * 1)) v := by
  rw [show Int.toNat (i : Int) * 1 = i by simp, ← addA_eq]
  exact h

/-- the byte at an index of a slice that is read -/
theorem BsR.at_ {R : Rd} {A : Option Addr} {n cap : Nat} {l : List UInt8} (h : BsR R (.slice A n cap) l) {i : Nat} {b : UInt8} (hb : l[i]? = some b) : ∃ a, A = some a ∧ R (a.add i) (.int .u8 b.toNat) := by
  obtain ⟨_, A', cap', hv, hr⟩ := h
  cases hv
  exact hr i _ (BV_get hb)

theorem BsR.form {R : Rd} {v : Value} {l : List UInt8} (h : BsR R v l) : ∃ A cap, v = .slice A l.length cap := by
  obtain ⟨_, A, cap, rfl, _⟩ := h
  exact ⟨A, cap, rfl⟩

theorem BsR.src {R : Rd} {A : Option Addr} {n cap : Nat} {l : List UInt8} (h : BsR R (.slice A n cap) l) : ∀ j u, (BV l)[j]? = some u → ∃ a, A = some a ∧ R (a.add j) u := by
  obtain ⟨_, A', cap', hv, hr⟩ := h
  cases hv
  exact hr

theorem take_succ_eq {α : Type} {x y : List α} {i : Nat} (h : x.take i = y.take i) {b : α} (hx : x[i]? = some b) (hy : y[i]? = some b) : x.take (i + 1) = y.take (i + 1) := by
  rw [List.take_add_one, List.take_add_one, h, hx, hy]

theorem eq_of_take {α : Type} {x y : List α} (hl : x.length = y.length) (h : x.take x.length = y.take x.length) : x = y := by
  rw [List.take_length] at h
  rw [h, hl, List.take_length]

/-- a cell of a row of the call's own, at a computed index -/
theorem ldr1 {R : Rd} {h : Hp} (j : Nat) {g : Nat} {n cap : Nat} {e : TypeId} {sz : Nat} {xs : List Value} {fz : Nat × Nat} {i : Nat} {v : Value} (hi : h[j]? = some (.row (some ⟨g, 0, .none⟩) n cap e sz xs fz)) (hc : xs[i]? = some v) :
    RH R h (addA ⟨g, 0, .none⟩ (Int.toNat (i : Int) * 1)) v := by
  rw [show Int.toNat (i : Int) * 1 = i by simp, ← addA_eq, add_zero_addr]
  exact ldr j hi hc

theorem band127 (x : Nat) (hx : x < 256) : bitsOp .and .u8 (x : Int) 127 = ((x % 128 : Nat) : Int) := by
  have h : ∀ x : Fin 256, bitsOp .and .u8 (x.val : Int) 127 = ((x.val % 128 : Nat) : Int) := by decide +kernel
  exact h ⟨x, hx⟩

theorem bor_u64 {a b : Nat} (ha : a < 18446744073709551616) (hb : b < 18446744073709551616) : bitsOp .or .u64 (a : Int) (b : Int) = ((a ||| b : Nat) : Int) := by
  have hlt : (a ||| b) < 2 ^ 64 := Nat.or_lt_two_pow (by omega) (by omega)
  have e1 : (BitVec.ofInt 64 (a : Int)) = BitVec.ofNat 64 a := by simp
  have e2 : (BitVec.ofInt 64 (b : Int)) = BitVec.ofNat 64 b := by simp
  show IntKind.u64.wrap ((BitVec.ofInt 64 (a : Int) ||| BitVec.ofInt 64 (b : Int)).toNat : Int) = _
  rw [e1, e2, BitVec.toNat_or, BitVec.toNat_ofNat, BitVec.toNat_ofNat, Nat.mod_eq_of_lt (by omega), Nat.mod_eq_of_lt (by omega), IntKind.wrap_u64]
  omega

theorem or_disjoint {a c i : Nat} (h : a < 2 ^ i) : a ||| (c * 2 ^ i) = a + c * 2 ^ i := by
  rw [Nat.or_comm, Nat.mul_comm, ← Nat.two_pow_add_eq_or_of_lt h, Nat.add_comm]

theorem callable {P : Program} {f : FuncId} {fn : Func} (hf : P.funcs[f]? = some fn) (hb : fn.body.isNone = false) (hn : (fn.name == "runtime.NumGoroutine") = false) : Callable P f := ⟨fn, hf, hb, hn⟩
/-- What follows from the memory at hand may be used. -/
theorem fn_pure {P : Program} {f : FuncId} {args : List Value} {h : Hp} {R : Rd} {Post : Value → Hp → Prop} {p : Prop} (hc : Callable P f) (hp : ∀ w, Own h w → p) (hF : p → Fn P f args h R Post) : Fn P f args h R Post :=
  ⟨hc, fun w o r a => (hF (hp w o)).2 w o r a⟩
theorem row_cap {h : Hp} {w : World} (o : Own h w) (i : Nat) {A : Option Addr} {n cap : Nat} {e : TypeId} {sz : Nat} {xs : List Value} {fz : Nat × Nat} (hi : h[i]? = some (.row A n cap e sz xs fz)) : n ≤ cap ∧ cap ≤ maxLen :=
  let h := o.all _ (List.mem_of_getElem? hi)
  ⟨h.2.1, h.2.2.1⟩

/-- A part of a row of the call's own can be read. -/
theorem sub_src {R : Rd} {h : Hp} (i : Nat) {A : Option Addr} {k cap : Nat} {e : TypeId} {xs : List Value} {fz : Nat × Nat} {o n : Nat} (hi : h[i]? = some (.row A k cap e 1 xs fz)) (hl : xs.length = k) (ho : o + n ≤ k) (hc : k ≤ cap) (hg : grow k A) :
    ∀ j u, ((xs.drop o).take n)[j]? = some u → ∃ a, sliceBase A cap o 1 = some a ∧ RH R h (a.add j) u := by
  intro j u hu
  have hj : j < n := by
    rcases Nat.lt_or_ge j n with h | h
    · exact h
    · rw [List.getElem?_eq_none (by simp; omega)] at hu; cases hu
  rw [List.getElem?_take_of_lt hj, List.getElem?_drop] at hu
  obtain ⟨g, rfl⟩ := growA hg (by omega)
  refine ⟨_, by rw [sliceBase, if_neg (by omega), Option.map_some], ?_⟩
  rw [add_zero_addr]
  have e : (⟨g, o * 1, .none⟩ : Addr).add j = ⟨g, o + j, .none⟩ := by
    rw [addA_eq]; cases j <;> simp [addA]
  rw [e]
  exact ldr i hi hu

theorem BsR.own {R : Rd} {h : Hp} (i : Nat) {A : Option Addr} {k cap : Nat} {e : TypeId} {xs : List Value} {fz : Nat × Nat} {bs : List UInt8} (hi : h[i]? = some (.row A k cap e 1 xs fz)) (hk : k = bs.length) (hx : xs = BV bs) (hg : grow k A) : BsR (RH R h) (.slice A k cap) bs := by
  subst hk hx
  exact SlR.own i hi (by rw [BV_length, Nat.mul_one]) hg

theorem BsR.nilv (R : Rd) : BsR R (.slice none 0 0) [] := ⟨rfl, none, 0, rfl, fun j u h => by simp [BV] at h⟩
theorem Ent.nil (h : Hp) : Ent h [] := fun w _ => ⟨Own.nil w, fun g hg => by simp [idsOf] at hg⟩

/-! ### what is known of the memory, said otherwise around a call -/
theorem Fn.ent {P : Program} {f : FuncId} {args : List Value} {h : Hp} {R : Rd} {Post Post' : Value → Hp → Prop} (c : Fn P f args h R Post) (hp : ∀ v h', Post v h' → ∃ h2, Ent h' h2 ∧ Post' v h2) : Fn P f args h R Post' :=
  ⟨c.1, fun w o r a => (c.2 w o r a).mono fun _ _ ⟨v, h', he, hq, t⟩ => by
    obtain ⟨h2, e, hq2⟩ := hp v h' hq
    exact ⟨v, h2, he, hq2, t.ent e⟩⟩
theorem Fn.pre {P : Program} {f : FuncId} {args : List Value} {h h0 : Hp} {R : Rd} {Post : Value → Hp → Prop} (e : Ent h h0) (c : Fn P f args h0 R Post) : Fn P f args h R Post :=
  ⟨c.1, fun w o r a => (c.2 w (e w o).1 r (fun ad v hv hm => a ad v hv ((e w o).2 _ hm))).mono fun _ _ ⟨v, h', he, hq, t⟩ =>
    ⟨v, h', he, hq, t.os, t.tape, t.output, t.size, fun k hk hn => t.keep k hk (fun hm => hn ((e w o).2 _ hm)), t.own, fun g hg => (t.fresh g hg).imp ((e w o).2 g) id⟩⟩
/-- The cells of a piece of memory. -/
def cellsOf (h : Hp) : Rd := fun a v => ∃ x ∈ h, x.cell a v
/-- Memory that is only read from now on. -/
theorem Ent.freeze (a b : Hp) : Ent (a ++ b) (a ++ [.ro (idsOf b) (cellsOf b)]) := fun w o => by
  have e : idsOf (a ++ [HA.ro (idsOf b) (cellsOf b)]) = idsOf (a ++ b) := by
    rw [idsOf_append, idsOf_append]; simp [idsOf, HA.ids]
  refine ⟨⟨fun x hx => ?_, by rw [e]; exact o.nd⟩, fun g hg => by rw [← e]; exact hg⟩
  rcases List.mem_append.1 hx with hx | hx
  · exact o.all x (List.mem_append_left _ hx)
  · rw [List.mem_singleton.1 hx]
    refine ⟨fun g hg => o.right.lt hg, fun ad v ⟨y, hy, hc⟩ => ?_⟩
    have hyw := o.all y (List.mem_append_right _ hy)
    exact ⟨mem_idsOf.2 ⟨y, hy, HA.cell_ids hyw hc⟩, HA.cell_sound hyw hc⟩
theorem Ent.app {a a' b b' : Hp} (h : Ent a a') (k : Ent b b') : Ent (a ++ b) (a' ++ b') := fun w o => by
  have h1 := h w o.left
  have k1 := k w o.right
  refine ⟨⟨fun x hx => ?_, ?_⟩, fun g hg => ?_⟩
  · rcases List.mem_append.1 hx with hx | hx
    · exact h1.1.all x hx
    · exact k1.1.all x hx
  · rw [idsOf_append]
    refine List.nodup_append.2 ⟨h1.1.nd, k1.1.nd, fun g hg g' hg' e => ?_⟩
    subst e
    exact o.disj (h1.2 g hg) (k1.2 g hg')
  · rw [idsOf_append] at hg ⊢
    rcases List.mem_append.1 hg with hg | hg
    · exact List.mem_append_left _ (h1.2 g hg)
    · exact List.mem_append_right _ (k1.2 g hg)
/-! ### the rows of many slices -/
theorem rows_ids (l : List RowD) : idsOf (l.map RowD.ha) = l.flatMap RowD.ids := by
  rw [idsOf, List.flatMap_map]; rfl
theorem Ent.rows_mk (l : List RowD) : Ent (l.map RowD.ha) [.rows l] := fun w o => by
  have e : idsOf [HA.rows l] = idsOf (l.map RowD.ha) := by rw [rows_ids]; simp [idsOf, HA.ids]
  refine ⟨⟨fun x hx => ?_, by rw [e]; exact o.nd⟩, fun g hg => by rw [← e]; exact hg⟩
  rw [List.mem_singleton.1 hx]
  exact fun r hr => o.all r.ha (List.mem_map.2 ⟨r, hr, rfl⟩)
theorem Ent.rows_un (l : List RowD) : Ent [.rows l] (l.map RowD.ha) := fun w o => by
  have e : idsOf [HA.rows l] = idsOf (l.map RowD.ha) := by rw [rows_ids]; simp [idsOf, HA.ids]
  refine ⟨⟨fun x hx => ?_, by rw [← e]; exact o.nd⟩, fun g hg => by rw [e]; exact hg⟩
  obtain ⟨r, hr, rfl⟩ := List.mem_map.1 hx
  exact o.all (.rows l) (by simp) r hr
theorem Ent.rows_perm {l l' : List RowD} (p : l.Perm l') : Ent [.rows l] [.rows l'] := ((Ent.rows_un l).trans (Ent.perm (p.map RowD.ha))).trans (Ent.rows_mk l')
theorem Ent.rows_out (l1 l2 : List RowD) (r : RowD) : Ent [.rows (l1 ++ r :: l2)] [r.ha, .rows (l1 ++ l2)] :=
  ((Ent.rows_perm (List.perm_middle)).trans (Ent.rows_un (r :: (l1 ++ l2)))).trans (Ent.app (Ent.refl [r.ha]) (Ent.rows_mk (l1 ++ l2)))
theorem Ent.rows_in (l1 l2 : List RowD) (r : RowD) : Ent [r.ha, .rows (l1 ++ l2)] [.rows (l1 ++ r :: l2)] :=
  ((Ent.app (Ent.refl [r.ha]) (Ent.rows_un (l1 ++ l2))).trans (Ent.rows_mk (r :: (l1 ++ l2)))).trans (Ent.rows_perm List.perm_middle.symm)
/-- a cell of one of many rows -/
theorem ldrows {R : Rd} {h : Hp} (i : Nat) {l : List RowD} {r : RowD} {a : Addr} {v : Value} (hi : h[i]? = some (.rows l)) (hr : r ∈ l) (hc : r.cell a v) : RH R h a v :=
  .inr ⟨_, List.mem_of_getElem? hi, r, hr, hc⟩
/-- a cell of memory that is only read -/
theorem ldro {R : Rd} {h : Hp} (i : Nat) {ids : List Nat} {C : Rd} {a : Addr} {v : Value} (hi : h[i]? = some (.ro ids C)) (hc : C a v) : RH R h a v :=
  .inr ⟨_, List.mem_of_getElem? hi, hc⟩

end Go.Proofs.YtbgfnofjnbpdgaaDoor
