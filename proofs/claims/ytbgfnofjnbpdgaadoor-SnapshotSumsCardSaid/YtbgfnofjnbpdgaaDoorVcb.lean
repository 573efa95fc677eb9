/-
  What each operation that leaves the world alone asks and gives, as a formula that Lean computes; and that the formula is sound.
-/
import Derived.Test.YtbgfnofjnbpdgaaDoorVca
import Derived.Lib.Strings
import Derived.Laws.StructEq
namespace Go.Proofs.YtbgfnofjnbpdgaaDoor
open Go Go.RowKit

inductive TK where
  | int (k : IntKind) | bool | string | ptr | slice (e : TypeId) | array (n : Nat) (e : TypeId) | struct (fs : List (Nat × TypeId)) | func | map (k e : TypeId) | iface | other

def TK.of : TypeDesc → TK
  | .int k => .int k
  | .bool => .bool
  | .string => .string
  | .pointer _ => .ptr
  | .slice e => .slice e
  | .array n e => .array n e
  | .struct fs => .struct (fs.toList.map fun f => (f.offset, f.type))
  | .func _ _ _ => .func
  | .map k e => .map k e
  | .interface _ => .iface
  | _ => .other

/-- The cells of a type that are compared one by one. -/
inductive LK where
  | int (k : IntKind) | bool | string

/-- What is known of a type: its kind, how many cells and bytes a value takes, its zero value; and its cells, if it is a struct of integers, truth values and texts. -/
structure TI where
  kind : TK
  size : Nat
  bytes : Nat
  zero : Value
  flat : Option (List LK) := .none

def flatFs (P : Program) (F : TypeId → Option (List LK)) : List Field → Nat → Option (List LK)
  | [], _ => some []
  | f :: fs, off =>
    match F f.type with
    | some ls =>
      match flatFs P F fs (off + ls.length) with
      | some rs => if f.name != "_" && f.offset == off && ((P.info? f.type).map (·.size) == some ls.length) then some (ls ++ rs) else .none
      | .none => .none
    | .none => .none
def flatT (P : Program) : Nat → TypeId → Option (List LK)
  | 0, _ => .none
  | d + 1, t => match P.underlying t with
    | some .bool => some [.bool]
    | some (.int k) => some [.int k]
    | some .string => some [.string]
    | some (.struct fs) => if P.stoodInHeld t then .none else flatFs P (flatT P d) fs.toList 0
    | _ => .none
def flatOk (P : Program) (t : TypeId) : Option (List LK) → Prop
  | .none => True
  | some ls => flatT P 8 t = some ls ∧ P.eqGuardType P.depth t = false

abbrev Tab := List (TypeId × TI)

def lk : Tab → TypeId → Option TI
  | [], _ => .none
  | (t, i) :: r, u => match Nat.beq t u with
    | true => some i
    | false => lk r u

def TIok (P : Program) (t : TypeId) (ti : TI) : Prop :=
  (P.underlying t).map TK.of = some ti.kind ∧ (P.info? t).map (fun i => (i.size, i.bytes, i.zero)) = some (ti.size, ti.bytes, some ti.zero) ∧ flatOk P t ti.flat

def TabOk (P : Program) : Tab → Prop
  | [] => True
  | (t, i) :: r => TIok P t i ∧ TabOk P r

theorem lk_ok {P : Program} : ∀ {tab : Tab} (_ : TabOk P tab) {t : TypeId} {ti : TI}, lk tab t = some ti → TIok P t ti
  | [], _, _, _, h => by cases h
  | (t', i) :: r, ⟨h1, h2⟩, t, ti, h => by
    unfold lk at h
    split at h
    · rename_i hb
      have := Nat.eq_of_beq_eq_true hb
      subst this
      cases h
      exact h1
    · exact lk_ok h2 h

section info
variable {P : Program} {t : TypeId} {ti : TI}
theorem TIok.desc (h : TIok P t ti) : ∃ d, P.underlying t = some d ∧ TK.of d = ti.kind := by
  have := h.1
  cases hd : P.underlying t with
  | none => rw [hd] at this; cases this
  | some d => rw [hd] at this; exact ⟨d, rfl, by simpa using this⟩
theorem TIok.info (h : TIok P t ti) : ∃ i, P.info? t = some i ∧ i.size = ti.size ∧ i.bytes = ti.bytes ∧ i.zero = some ti.zero := by
  have := h.2.1
  cases hd : P.info? t with
  | none => rw [hd] at this; cases this
  | some i => rw [hd] at this; simp at this; exact ⟨i, rfl, this⟩
theorem TIok.int (h : TIok P t ti) {k : IntKind} (hk : ti.kind = .int k) : P.underlying t = some (.int k) := by
  obtain ⟨d, hd, hf⟩ := h.desc
  rw [hk] at hf; rw [hd]
  cases d <;> simp [TK.of] at hf <;> simp_all
theorem TIok.bool (h : TIok P t ti) (hk : ti.kind = .bool) : P.underlying t = some .bool := by
  obtain ⟨d, hd, hf⟩ := h.desc
  rw [hk] at hf; rw [hd]
  cases d <;> simp [TK.of] at hf <;> simp_all
theorem TIok.string (h : TIok P t ti) (hk : ti.kind = .string) : P.underlying t = some .string := by
  obtain ⟨d, hd, hf⟩ := h.desc
  rw [hk] at hf; rw [hd]
  cases d <;> simp [TK.of] at hf <;> simp_all
theorem TIok.slice (h : TIok P t ti) {e : TypeId} (hk : ti.kind = .slice e) : P.underlying t = some (.slice e) := by
  obtain ⟨d, hd, hf⟩ := h.desc
  rw [hk] at hf; rw [hd]
  cases d <;> simp [TK.of] at hf <;> simp_all
theorem TIok.array (h : TIok P t ti) {n : Nat} {e : TypeId} (hk : ti.kind = .array n e) : P.underlying t = some (.array n e) := by
  obtain ⟨d, hd, hf⟩ := h.desc
  rw [hk] at hf; rw [hd]
  cases d <;> simp [TK.of] at hf <;> simp_all
theorem TIok.ptr (h : TIok P t ti) (hk : ti.kind = .ptr) : ∃ e, P.underlying t = some (.pointer e) := by
  obtain ⟨d, hd, hf⟩ := h.desc
  rw [hk] at hf; rw [hd]
  cases d <;> simp [TK.of] at hf <;> simp_all
theorem TIok.struct (h : TIok P t ti) {fs : List (Nat × TypeId)} (hk : ti.kind = .struct fs) : ∃ fields, P.underlying t = some (.struct fields) ∧ fields.toList.map (fun f => (f.offset, f.type)) = fs := by
  obtain ⟨d, hd, hf⟩ := h.desc
  rw [hk] at hf; rw [hd]
  cases d <;> simp [TK.of] at hf <;> simp_all
end info

def TK.agg : TK → Bool
  | .array _ _ | .struct _ => true
  | _ => false

theorem run_isAgg {P : Program} {t : TypeId} {ti : TI} (h : TIok P t ti) (w : World) : (isAgg t).run P w = .ok ti.kind.agg w := by
  obtain ⟨d, hd, hf⟩ := h.desc
  unfold isAgg
  simp only [Sem.run_bind, run_underlying hd, Result.andThen_ok]
  rw [← hf]
  cases d <;> simp [TK.of, TK.agg]

theorem run_sizeOf {P : Program} {t : TypeId} {ti : TI} (h : TIok P t ti) (w : World) : (sizeOf t).run P w = .ok ti.size w := by
  obtain ⟨i, hi, hs, _⟩ := h.info
  simp [sizeOf, typeInfo, hi, hs]

/-! ### the frame -/
def gt : List Value → Nat → Value
  | [], _ => undef
  | v :: _, 0 => v
  | _ :: l, n + 1 => gt l n
def gtK (K : Value → Prop) : List Value → Nat → Prop
  | [], _ => K undef
  | v :: _, 0 => K v
  | _ :: l, n + 1 => gtK K l n
def stK : List Value → Nat → Value → (List Value → Prop) → Prop
  | [], _, _, K => K []
  | _ :: l, 0, v, K => K (v :: l)
  | x :: l, n + 1, v, K => stK l n v fun l' => K (x :: l')

theorem gtK_eq (K : Value → Prop) : ∀ (l : List Value) (n : Nat), gtK K l n = K (gt l n)
  | [], _ => rfl
  | _ :: _, 0 => rfl
  | _ :: l, n + 1 => gtK_eq K l n
theorem stK_eq : ∀ (l : List Value) (n : Nat) (v : Value) (K : List Value → Prop), stK l n v K = K (l.set n v)
  | [], _, _, _ => by simp [stK]
  | _ :: _, 0, _, _ => rfl
  | x :: l, n + 1, v, K => by simp [stK, stK_eq l n v]
theorem gt_eq : ∀ (l : List Value) (n : Nat), l.toArray.getD n undef = gt l n
  | [], _ => by simp [gt]
  | _ :: _, 0 => by simp [gt]
  | _ :: l, n + 1 => by
    rw [gt, ← gt_eq l n]
    simp

def ev (ρ : List Value) : Operand → Value
  | .tmp t => gt ρ t
  | .const v => v
  | .global g => .pointer (some ⟨g, 0, .none⟩)
  | .func f => .func (.func f) #[] #[]
def evK (ρ : List Value) (x : Operand) (K : Value → Prop) : Prop :=
  match x with
  | .tmp t => gtK K ρ t
  | .const v => K v
  | .global g => K (.pointer (some ⟨g, 0, .none⟩))
  | .func f => K (.func (.func f) #[] #[])
theorem evK_eq (ρ : List Value) (x : Operand) (K : Value → Prop) : evK ρ x K = K (ev ρ x) := by
  cases x <;> simp [evK, ev, gtK_eq]
def evsK (ρ : List Value) : List Operand → (List Value → Prop) → Prop
  | [], K => K []
  | x :: r, K => evK ρ x fun v => evsK ρ r fun l => K (v :: l)
theorem evsK_eq (ρ : List Value) : ∀ (xs : List Operand) (K : List Value → Prop), evsK ρ xs K = K (xs.map (ev ρ))
  | [], _ => rfl
  | x :: r, K => by simp [evsK, evK_eq, evsK_eq ρ r]

/-- The model's own frame. -/
abbrev act (ρ : List Value) (ds : List Deferred) : Act := ⟨ρ.toArray, ds⟩
theorem act_eval (ρ : List Value) (ds : List Deferred) : (act ρ ds).eval = ev ρ := by
  funext x
  cases x <;> simp only [Act.eval, ev]
  exact gt_eq _ _
theorem act_put (ρ : List Value) (ds : List Deferred) (d : Nat) (v : Value) : (act ρ ds).put (some d) v = act (ρ.set d v) ds := by
  simp [Act.put, act]

def allOne : List Value → Bool
  | [] => true
  | v :: l => (match v.oneCell' with | true => allOne l | false => false)
theorem allOne_iff : ∀ {l : List Value}, allOne l = true → ∀ u ∈ l, u.oneCell' = true
  | [], _, _, h => by cases h
  | v :: l, h, u, hu => by
    unfold allOne at h
    split at h
    · rename_i hv
      rcases List.mem_cons.1 hu with rfl | hu
      · exact hv
      · exact allOne_iff h u hu
    · cases h
theorem allOne_of : ∀ {l : List Value}, (∀ u ∈ l, u.oneCell' = true) → allOne l = true
  | [], _ => rfl
  | v :: l, h => by
    unfold allOne
    rw [h v (by simp)]
    exact allOne_of fun u hu => h u (by simp [hu])

/-- The cells of a value, as a list. -/
def cls : Value → List Value
  | .agg c => c.toList
  | v => [v]
theorem cls_eq (v : Value) : v.cells.toList = cls v := by cases v <;> rfl

/-- A range of cells that can be read. -/
def RdN (R : Rd) (a : Addr) (vs : List Value) : Prop := ∀ j v, vs[j]? = some v → R (a.add j) v

/-! ### integers -/
def bitsOp (op : BinOp) (k : IntKind) (x y : Int) : Int :=
  match op with
  | .and => k.wrap ((BitVec.ofInt k.bits x &&& BitVec.ofInt k.bits y).toNat : Int)
  | .or => k.wrap ((BitVec.ofInt k.bits x ||| BitVec.ofInt k.bits y).toNat : Int)
  | .xor => k.wrap ((BitVec.ofInt k.bits x ^^^ BitVec.ofInt k.bits y).toNat : Int)
  | .andNot => k.wrap ((BitVec.ofInt k.bits x &&& ~~~BitVec.ofInt k.bits y).toNat : Int)
  | _ => 0

def intQ (op : BinOp) (k : IntKind) (m : Int) (n : Int) (K : Value → Prop) : Prop :=
  match op with
  | .add => ∀ z : Int, z = k.wrap (m + n) → K (.int k z)
  | .sub => ∀ z : Int, z = k.wrap (m - n) → K (.int k z)
  | .mul => ∀ z : Int, z = k.wrap (m * n) → K (.int k z)
  | .quo => n ≠ 0 ∧ ∀ z : Int, z = k.wrap (m.tdiv n) → K (.int k z)
  | .rem => n ≠ 0 ∧ ∀ z : Int, z = m.tmod n → K (.int k z)
  | .and => ∀ z : Int, z = bitsOp .and k m n → K (.int k z)
  | .or => ∀ z : Int, z = bitsOp .or k m n → K (.int k z)
  | .xor => ∀ z : Int, z = bitsOp .xor k m n → K (.int k z)
  | .andNot => ∀ z : Int, z = bitsOp .andNot k m n → K (.int k z)
  | .shl => 0 ≤ n ∧ ∀ z : Int, z = k.wrap (m * 2 ^ (min n.toNat k.bits)) → K (.int k z)
  | .shr => 0 ≤ n ∧ ∀ z : Int, z = m.fdiv (2 ^ (min n.toNat k.bits)) → K (.int k z)
  | .eql => K (.bool (decide (m = n)))
  | .neq => K (.bool (!decide (m = n)))
  | .lss => K (.bool (decide (m < n)))
  | .leq => K (.bool (decide (m ≤ n)))
  | .gtr => K (.bool (decide (n < m)))
  | .geq => K (.bool (decide (n ≤ m)))

/-- A test that Lean computes. -/
def chkB (b : Bool) (K : Prop) : Prop :=
  match b with
  | true => K
  | false => False
theorem chkB_of {b : Bool} {K : Prop} (h : chkB b K) : b = true ∧ K := by
  cases b
  · exact False.elim h
  · exact ⟨rfl, h⟩

def kindNo : IntKind → Nat
  | .i8 => 0 | .i16 => 1 | .i32 => 2 | .i64 => 3 | .u8 => 4 | .u16 => 5 | .u32 => 6 | .u64 => 7
theorem kindNo_inj {k k' : IntKind} (h : Nat.beq (kindNo k) (kindNo k') = true) : k = k' := by
  have := Nat.eq_of_beq_eq_true h
  cases k <;> cases k' <;> first | rfl | (simp [kindNo] at this)

def isShift : BinOp → Bool
  | .shl | .shr => true
  | _ => false

theorem Int.beq_decide (m n : Int) : (m == n) = decide (m = n) := by
  by_cases h : m = n <;> simp [h]

theorem intQ_sound {P : Program} {t : TypeId} {op : BinOp} {k k' : IntKind} {m n : Int} {K : Value → Prop} (hk : isShift op = true ∨ k = k') (h : intQ op k m n K) :
    ∃ v, (∀ w, (binOp op t (.int k m) (.int k' n)).run P w = .ok v w) ∧ K v := by
  cases op <;> simp only [intQ, isShift, Bool.false_eq_true, false_or, true_or] at h hk
  case shl => obtain ⟨h0, h⟩ := h; exact ⟨_, fun w => by simp [binOp, Op.shift, Int.not_lt.2 h0], h _ rfl⟩
  case shr => obtain ⟨h0, h⟩ := h; exact ⟨_, fun w => by simp [binOp, Op.shift, Int.not_lt.2 h0], h _ rfl⟩
  case quo => subst hk; obtain ⟨h0, h⟩ := h; exact ⟨_, fun w => by simp [binOp, Op.intDiv, h0], h _ rfl⟩
  case rem => subst hk; obtain ⟨h0, h⟩ := h; exact ⟨_, fun w => by simp [binOp, Op.intDiv, h0], h _ rfl⟩
  case eql => subst hk; exact ⟨_, fun w => by simp [binOp, Op.intCmp, Int.beq_decide], h⟩
  case neq => subst hk; exact ⟨_, fun w => by simp [binOp, Op.intCmp, bne, Int.beq_decide], h⟩
  case lss => subst hk; exact ⟨_, fun w => by simp [binOp, Op.intCmp], h⟩
  case leq => subst hk; exact ⟨_, fun w => by simp [binOp, Op.intCmp], h⟩
  case gtr => subst hk; exact ⟨_, fun w => by simp [binOp, Op.intCmp], h⟩
  case geq => subst hk; exact ⟨_, fun w => by simp [binOp, Op.intCmp], h⟩
  all_goals (subst hk; exact ⟨_, fun w => by simp [binOp, Op.intArith, Op.intBits, bitsOp], h _ rfl⟩)

/-! ### one operation that leaves the world alone -/
def addA (a : Addr) (n : Nat) : Addr :=
  match n with
  | 0 => a
  | n + 1 => ⟨a.block, a.off + (n + 1), .none⟩
theorem addA_eq (a : Addr) (n : Nat) : a.add n = addA a n := by
  cases n <;> simp [Addr.add, addA]

def nthK {α : Type} (K : α → Prop) : List α → Nat → Prop
  | [], _ => False
  | x :: _, 0 => K x
  | _ :: l, n + 1 => nthK K l n
theorem nthK_eq {α : Type} (K : α → Prop) : ∀ (l : List α) (n : Nat), nthK K l n → ∃ x, l[n]? = some x ∧ K x
  | [], _, h => h.elim
  | x :: _, 0, h => ⟨x, by simp, h⟩
  | _ :: l, n + 1, h => by obtain ⟨x, hx, hk⟩ := nthK_eq K l n h; exact ⟨x, by simpa using hx, hk⟩

/-! ### structs that are compared cell by cell -/
def alike : List LK → List Value → Bool
  | [], [] => true
  | .int k :: ls, .int k' _ :: vs => (match Nat.beq (kindNo k) (kindNo k') with | true => alike ls vs | false => false)
  | .bool :: ls, .bool _ :: vs => alike ls vs
  | .string :: ls, .string _ :: vs => alike ls vs
  | _, _ => false

theorem alike_length : ∀ {ls : List LK} {vs : List Value}, alike ls vs = true → vs.length = ls.length
  | [], [], _ => rfl
  | [], _ :: _, h => by simp [alike] at h
  | l :: ls, [], h => by cases l <;> simp [alike] at h
  | l :: ls, v :: vs, h => by
    cases l <;> cases v <;> simp only [alike] at h <;> first | (cases h; done) | skip
    · split at h <;> first | (cases h; done) | simp [alike_length h]
    · simp [alike_length h]
    · simp [alike_length h]

theorem alike_append : ∀ {ls rs : List LK} {vs : List Value}, alike (ls ++ rs) vs = true → alike ls (vs.take ls.length) = true ∧ alike rs (vs.drop ls.length) = true
  | [], rs, vs, h => by simp [alike]; simpa using h
  | l :: ls, rs, [], h => by cases l <;> simp [alike] at h
  | l :: ls, rs, v :: vs, h => by
    cases l <;> cases v <;> simp only [List.cons_append, alike] at h <;> first | (cases h; done) | skip
    · split at h
      · rename_i hb
        obtain ⟨h1, h2⟩ := alike_append h
        exact ⟨by simp only [List.length_cons, List.take_succ_cons, alike, hb]; exact h1, by simpa using h2⟩
      · cases h
    · obtain ⟨h1, h2⟩ := alike_append h
      exact ⟨by simpa only [List.length_cons, List.take_succ_cons, alike] using h1, by simpa using h2⟩
    · obtain ⟨h1, h2⟩ := alike_append h
      exact ⟨by simpa only [List.length_cons, List.take_succ_cons, alike] using h1, by simpa using h2⟩

/-- The value of these cells. -/
def FV (P : Program) (t : TypeId) (a : Value) (cs : List Value) : Prop :=
  a.cells.toList = cs ∧ match P.underlying t with
  | some (.struct _) => ∃ c, a = .agg c
  | _ => ∀ c, a ≠ .agg c

theorem FV.one {P : Program} {t : TypeId} {a v : Value} {d : TypeDesc} (hu : P.underlying t = some d) (hd : ∀ fs, d ≠ .struct fs) (h : FV P t a [v]) : a = v := by
  obtain ⟨h1, h2⟩ := h
  rw [hu] at h2
  cases d <;> first | exact absurd rfl (hd _) | skip
  all_goals (cases a <;> first | exact absurd rfl (h2 _) | (simpa [Value.cells] using h1))

theorem alike_int {k : IntKind} {cs : List Value} (h : alike [.int k] cs = true) : ∃ n, cs = [.int k n] := by
  cases cs with
  | nil => simp [alike] at h
  | cons v vs =>
    cases v <;> simp only [alike] at h <;> first | (cases h; done) | skip
    split at h
    · rename_i hb
      have hl := alike_length h
      obtain rfl := kindNo_inj hb
      exact ⟨_, by rw [List.eq_nil_of_length_eq_zero hl]⟩
    · cases h
theorem alike_bool {cs : List Value} (h : alike [.bool] cs = true) : ∃ n, cs = [.bool n] := by
  cases cs with
  | nil => simp [alike] at h
  | cons v vs =>
    cases v <;> simp only [alike] at h <;> first | (cases h; done) | skip
    exact ⟨_, by rw [List.eq_nil_of_length_eq_zero (alike_length h)]⟩
theorem alike_string {cs : List Value} (h : alike [.string] cs = true) : ∃ n, cs = [.string n] := by
  cases cs with
  | nil => simp [alike] at h
  | cons v vs =>
    cases v <;> simp only [alike] at h <;> first | (cases h; done) | skip
    exact ⟨_, by rw [List.eq_nil_of_length_eq_zero (alike_length h)]⟩

theorem get_of_take {xs : List Value} {off n : Nat} {v : Value} (h : (xs.drop off).take n = [v]) : xs[off]? = some v := by
  have h0 : ((xs.drop off).take n)[0]? = some v := by rw [h]; rfl
  have hn : 0 < n := by
    rcases Nat.eq_zero_or_pos n with h1 | h1
    · subst h1; simp at h0
    · exact h1
  rw [List.getElem?_take_of_lt hn] at h0
  simpa using h0

theorem run_part_flat {P : Program} {d : Nat} {t : TypeId} {ls : List LK} (ht : flatT P d t = some ls) (hs : (P.info? t).map (·.size) = some ls.length) {xs : Array Value} {off : Nat} (ha : alike ls ((xs.toList.drop off).take ls.length) = true) :
    ∃ a, (∀ w, (part t xs off).run P w = .ok a w) ∧ FV P t a ((xs.toList.drop off).take ls.length) := by
  cases d with
  | zero => cases ht
  | succ d =>
    unfold flatT at ht
    split at ht
    · rename_i hu
      cases ht
      obtain ⟨n, hn⟩ := alike_bool ha
      have hg := get_of_take hn
      refine ⟨.bool n, fun w => ?_, by rw [hn]; rfl, by rw [hu]; intro c hc; cases hc⟩
      have : xs[off]? = some (.bool n) := by simpa using hg
      simp [part, isAgg, run_underlying hu, this]
    · rename_i k hu
      cases ht
      obtain ⟨n, hn⟩ := alike_int ha
      have hg := get_of_take hn
      refine ⟨.int k n, fun w => ?_, by rw [hn]; rfl, by rw [hu]; intro c hc; cases hc⟩
      have : xs[off]? = some (.int k n) := by simpa using hg
      simp [part, isAgg, run_underlying hu, this]
    · rename_i hu
      cases ht
      obtain ⟨n, hn⟩ := alike_string ha
      have hg := get_of_take hn
      refine ⟨.string n, fun w => ?_, by rw [hn]; rfl, by rw [hu]; intro c hc; cases hc⟩
      have : xs[off]? = some (.string n) := by simpa using hg
      simp [part, isAgg, run_underlying hu, this]
    · rename_i fs hu
      cases hi : P.info? t with
      | none => rw [hi] at hs; cases hs
      | some i =>
        rw [hi] at hs
        simp only [Option.map_some, Option.some.injEq] at hs
        refine ⟨.agg (xs.extract off (off + ls.length)), fun w => ?_, ?_, by rw [hu]; exact ⟨_, rfl⟩⟩
        · simp [part, isAgg, run_underlying hu, sizeOf, typeInfo, hi, hs]
        · show (xs.extract off (off + ls.length)).toList = _
          rw [Array.toList_extract]
          simp [List.extract]
    · cases ht

def EqT (P : Program) (d e : Nat) : Prop := ∀ t ls, flatT P d t = some ls → ∀ a b cs ds, FV P t a cs → FV P t b ds → alike ls cs = true → alike ls ds = true →
  ∃ r, (∀ w, (Op.equalIn (e + d) t a b).run P w = .ok r w) ∧ (r = true ↔ cs = ds)

theorem eqFs {P : Program} {d e : Nat} (IH : EqT P d e) (xs ys : Array Value) : ∀ (fs : List Field) (off : Nat) (rs : List LK), flatFs P (flatT P d) fs off = some rs → alike rs (xs.toList.drop off) = true → alike rs (ys.toList.drop off) = true →
    ∃ r, (∀ w, (Op.eqFields (e + d) xs ys fs).run P w = .ok r w) ∧ (r = true ↔ xs.toList.drop off = ys.toList.drop off)
  | [], off, rs, h, ha, hb => by
    simp only [flatFs, Option.some.injEq] at h
    subst h
    have h1 := List.eq_nil_of_length_eq_zero (alike_length ha)
    have h2 := List.eq_nil_of_length_eq_zero (alike_length hb)
    exact ⟨true, fun w => by simp [Op.eqFields], by rw [h1, h2]; simp⟩
  | f :: fs, off, rs, h, ha, hb => by
    simp only [flatFs] at h
    split at h <;> first | (cases h; done) | skip
    rename_i ls hls
    split at h <;> first | (cases h; done) | skip
    rename_i rs' hrs
    split at h <;> first | (cases h; done) | skip
    rename_i hc
    cases h
    simp only [Bool.and_eq_true, bne_iff_ne, ne_eq, beq_iff_eq] at hc
    obtain ⟨⟨hn, ho⟩, hs⟩ := hc
    obtain ⟨ha1, ha2⟩ := alike_append ha
    obtain ⟨hb1, hb2⟩ := alike_append hb
    rw [List.drop_drop] at ha2 hb2
    obtain ⟨a, pa, fa⟩ := run_part_flat hls hs ha1
    obtain ⟨b, pb, fb⟩ := run_part_flat hls hs hb1
    obtain ⟨r, hr, hi⟩ := IH _ _ hls _ _ _ _ fa fb ha1 hb1
    obtain ⟨r', hr', hi'⟩ := eqFs IH xs ys fs (off + ls.length) rs' hrs ha2 hb2
    have key : (xs.toList.drop off = ys.toList.drop off) ↔ ((xs.toList.drop off).take ls.length = (ys.toList.drop off).take ls.length ∧ xs.toList.drop (off + ls.length) = ys.toList.drop (off + ls.length)) := by
      constructor
      · intro h; exact ⟨by rw [h], by rw [← List.drop_drop, h, List.drop_drop]⟩
      · rintro ⟨h1, h2⟩
        rw [← List.take_append_drop ls.length (xs.toList.drop off), h1, List.drop_drop, h2, ← List.drop_drop, List.take_append_drop]
    rw [key]
    cases r
    · refine ⟨false, fun w => ?_, ?_⟩
      · simp [Op.eqFields, hn, ho, pa, pb, hr]
      · simp only [Bool.false_eq_true, false_iff]
        rintro ⟨h1, _⟩
        exact absurd (hi.2 h1) (by simp)
    · refine ⟨r', fun w => ?_, ?_⟩
      · simp [Op.eqFields, hn, ho, pa, pb, hr, hr']
      · rw [hi']
        exact ⟨fun h => ⟨hi.1 rfl, h⟩, fun h => h.2⟩

theorem eqT {P : Program} : ∀ d e, EqT P d e
  | 0, _, _, _, h => by cases h
  | d + 1, e, t, ls, ht => by
    intro a b cs ds fa fb ha hb
    unfold flatT at ht
    split at ht
    · rename_i hu
      cases ht
      obtain ⟨n, rfl⟩ := alike_bool ha
      obtain ⟨m, rfl⟩ := alike_bool hb
      obtain rfl := fa.one hu (fun _ h => by cases h)
      obtain rfl := fb.one hu (fun _ h => by cases h)
      exact ⟨n == m, fun w => run_equalIn_bool' w (e + d) t n m hu, by simp⟩
    · rename_i k hu
      cases ht
      obtain ⟨n, rfl⟩ := alike_int ha
      obtain ⟨m, rfl⟩ := alike_int hb
      obtain rfl := fa.one hu (fun _ h => by cases h)
      obtain rfl := fb.one hu (fun _ h => by cases h)
      exact ⟨n == m, fun w => run_equalIn_int w (e + d) t k k n m hu, by simp⟩
    · rename_i hu
      cases ht
      obtain ⟨n, rfl⟩ := alike_string ha
      obtain ⟨m, rfl⟩ := alike_string hb
      obtain rfl := fa.one hu (fun _ h => by cases h)
      obtain rfl := fb.one hu (fun _ h => by cases h)
      refine ⟨n.toList == m.toList, fun w => run_equalIn_string w (e + d) t n m hu, ?_⟩
      rw [ByteArray.toList_eq, ByteArray.toList_eq]
      constructor
      · intro h
        have h := eq_of_beq h
        obtain ⟨⟨n⟩⟩ := n
        obtain ⟨⟨m⟩⟩ := m
        simp at h
        rw [h]
      · intro h
        simp only [List.cons.injEq, Value.string.injEq, and_true] at h
        subst h; simp
    · rename_i fs hu
      split at ht
      · cases ht
      · rename_i hst
        obtain ⟨h1, h2⟩ := fa
        obtain ⟨h3, h4⟩ := fb
        rw [hu] at h2 h4
        obtain ⟨xs, rfl⟩ := h2
        obtain ⟨ys, rfl⟩ := h4
        simp only [Value.cells] at h1 h3
        subst h1 h3
        have hf : P.fieldsOf t = fs := by simp [Program.fieldsOf, hu]
        obtain ⟨r, hr, hi⟩ := eqFs (eqT d e) xs ys fs.toList 0 ls ht (by simpa using ha) (by simpa using hb)
        refine ⟨r, fun w => ?_, by simpa using hi⟩
        rw [show e + (d + 1) = (e + d) + 1 by omega, run_equalIn_struct w (e + d) t xs ys (by rw [hf]; exact hu) (by simpa using hst), hf]
        exact hr w
    · cases ht

/-- 'x == y' (eq: true) and 'x != y' on values that are no integers and no strings. -/
def eqV (ti : TI) (a b : Value) (K : Bool → Prop) : Prop :=
  match ti.kind, a, b with
  | .bool, .bool p, .bool q => K (p == q)
  | .ptr, .pointer p, .pointer .none => K p.isNone
  | .slice _, .slice A _ _, .slice .none _ _ => K A.isNone
  | .struct _, .agg p, .agg q => (match ti.flat with
    | some ls => chkB (alike ls p.toList && alike ls q.toList) (∀ r : Bool, (r = true ↔ p.toList = q.toList) → K r)
    | .none => False)
  | _, _, _ => False

def binQ (tab : Tab) (op : BinOp) (t : TypeId) (a b : Value) (K : Value → Prop) : Prop :=
  match a, b with
  | .int k m, .int k' n => (match isShift op with | true => intQ op k m n K | false => chkB (Nat.beq (kindNo k) (kindNo k')) (intQ op k m n K))
  | .string s, .string u => (match op with
    | .eql => K (.bool (decide (s.data.toList = u.data.toList)))
    | .neq => K (.bool (!decide (s.data.toList = u.data.toList)))
    | .add => s.data.toList.length + u.data.toList.length ≤ maxLen ∧ K (.string ⟨⟨s.data.toList ++ u.data.toList⟩⟩)
    | .lss => K (.bool (Op.bytesLess s.data.toList u.data.toList))
    | _ => False)
  | a, b => (match op with
    | .eql => (match lk tab t with | some ti => eqV ti a b fun r => K (.bool r) | .none => False)
    | .neq => (match lk tab t with | some ti => eqV ti a b fun r => K (.bool (!r)) | .none => False)
    | _ => False)

theorem run_equal_bool {P : Program} {t : TypeId} (hu : P.underlying t = some .bool) (d : Nat) (p q : Bool) (w : World) : (Op.equalIn (d + 1) t (.bool p) (.bool q)).run P w = .ok (p == q) w := by
  simp [Op.equalIn, run_underlying hu]
theorem run_equal_ptr {P : Program} {t e : TypeId} (hu : P.underlying t = some (.pointer e)) (d : Nat) (p : Option Addr) (w : World) : (Op.equalIn (d + 1) t (.pointer p) (.pointer .none)).run P w = .ok p.isNone w := by
  cases p <;> simp [Op.equalIn, run_underlying hu]
theorem run_equal_slice {P : Program} {t e : TypeId} (hu : P.underlying t = some (.slice e)) (d : Nat) (A : Option Addr) (n c n' c' : Nat) (w : World) : (Op.equalIn (d + 1) t (.slice A n c) (.slice .none n' c')).run P w = .ok A.isNone w := by
  cases A <;> simp [Op.equalIn, run_underlying hu]

theorem eqV_sound {P : Program} {t : TypeId} {ti : TI} (ht : TIok P t ti) {a b : Value} {K : Bool → Prop} (h : eqV ti a b K) :
    ∃ r, (∀ w, (binOp .eql t a b).run P w = .ok (.bool r) w) ∧ (∀ w, (binOp .neq t a b).run P w = .ok (.bool (!r)) w) ∧ K r := by
  unfold eqV at h
  split at h <;> first | exact h.elim | skip
  all_goals rename_i hkind
  · exact ⟨_, fun w => by simp [binOp, Op.equal, Op.maxDepth, run_equal_bool (ht.bool hkind) 9999], fun w => by simp [binOp, Op.equal, Op.maxDepth, run_equal_bool (ht.bool hkind) 9999], h⟩
  · obtain ⟨e, hu⟩ := ht.ptr hkind
    exact ⟨_, fun w => by simp [binOp, Op.equal, Op.maxDepth, run_equal_ptr hu 9999], fun w => by simp [binOp, Op.equal, Op.maxDepth, run_equal_ptr hu 9999], h⟩
  · exact ⟨_, fun w => by simp [binOp, Op.equal, Op.maxDepth, run_equal_slice (ht.slice hkind) 9999], fun w => by simp [binOp, Op.equal, Op.maxDepth, run_equal_slice (ht.slice hkind) 9999], h⟩
  · rename_i p q
    split at h <;> first | exact h.elim | skip
    rename_i ls hls
    obtain ⟨hc, h⟩ := chkB_of h
    simp only [Bool.and_eq_true] at hc
    obtain ⟨fs, hu, _⟩ := ht.struct hkind
    have hf := ht.2.2
    rw [hls] at hf
    obtain ⟨r, hr, hi⟩ := eqT (P := P) 8 9992 t ls hf.1 (.agg p) (.agg q) p.toList q.toList ⟨rfl, by rw [hu]; exact ⟨_, rfl⟩⟩ ⟨rfl, by rw [hu]; exact ⟨_, rfl⟩⟩ hc.1 hc.2
    refine ⟨r, fun w => ?_, fun w => ?_, h r hi⟩
    · rw [run_eql_struct, hr w]; rfl
    · rw [run_neq_struct, hr w]; rfl

theorem eqGuard_int {P : Program} {op : BinOp} {t : TypeId} {x y : Operand} {k : IntKind} {n : Int} {b : Value} (w : World) : (eqGuard op t x y (.int k n) b).run P w = .ok () w := by
  unfold eqGuard; split <;> simp
theorem eqGuard_string {P : Program} {op : BinOp} {t : TypeId} {x y : Operand} {s : ByteArray} {b : Value} (w : World) : (eqGuard op t x y (.string s) b).run P w = .ok () w := by
  unfold eqGuard; split <;> simp
theorem eqGuard_eqV {P : Program} {op : BinOp} {t : TypeId} {x y : Operand} {ti : TI} (ht : TIok P t ti) {a b : Value} {K : Bool → Prop} (h : eqV ti a b K) (w : World) : (eqGuard op t x y a b).run P w = .ok () w := by
  unfold eqV at h
  split at h <;> first | exact h.elim | skip
  case h_4 =>
    split at h <;> first | exact h.elim | skip
    rename_i ls hls
    have hf := ht.2.2
    rw [hls] at hf
    exact run_eqGuard_agg w op t x y _ _ hf.2
  all_goals (unfold eqGuard; split <;> simp)

theorem Str_eq (s u : ByteArray) : (s.toList == u.toList) = decide (s.data.toList = u.data.toList) := by
  rw [ByteArray.toList_eq, ByteArray.toList_eq]
  by_cases h : s.data.toList = u.data.toList
  · simp [h]
  · rw [decide_eq_false h]; exact beq_eq_false_iff_ne.2 h

theorem binQ_sound {P : Program} {tab : Tab} (htab : TabOk P tab) {op : BinOp} {t : TypeId} {a b : Value} {K : Value → Prop} (h : binQ tab op t a b K) (x y : Operand) :
    ∃ v, (∀ w, (do eqGuard op t x y a b; binOp op t a b : Sem Value).run P w = .ok v w) ∧ K v := by
  unfold binQ at h
  split at h
  · rename_i k m k' n
    have hk' : (isShift op = true ∨ k = k') ∧ intQ op k m n K := by
      cases hs : isShift op
      · rw [hs] at h; obtain ⟨a, b⟩ := chkB_of h; exact ⟨.inr (kindNo_inj a), b⟩
      · rw [hs] at h; exact ⟨.inl rfl, h⟩
    obtain ⟨hk', h⟩ := hk'
    obtain ⟨v, hv, hK⟩ := intQ_sound (P := P) (t := t) hk' h
    exact ⟨v, fun w => by simp only [Sem.run_bind, eqGuard_int, Result.andThen_ok, hv], hK⟩
  · rename_i s u
    split at h <;> first | exact h.elim | skip
    · exact ⟨_, fun w => by simp only [Sem.run_bind, eqGuard_string, Result.andThen_ok, binOp, Op.stringOp, Str_eq]; rfl, h⟩
    · exact ⟨_, fun w => by simp only [Sem.run_bind, eqGuard_string, Result.andThen_ok, binOp, Op.stringOp, Str_eq]; rfl, h⟩
    · obtain ⟨hl, h⟩ := h
      refine ⟨_, fun w => ?_, h⟩
      simp only [Sem.run_bind, eqGuard_string, Result.andThen_ok, binOp]
      rw [run_string_add_sum w s u (by rw [Lib.size_eq, Lib.size_eq]; simpa [maxLen] using hl)]
      congr 2
    · exact ⟨_, fun w => by simp only [Sem.run_bind, eqGuard_string, Result.andThen_ok, binOp, Op.stringOp, ByteArray.toList_eq]; rfl, h⟩
  · split at h <;> first | exact h.elim | skip
    · split at h <;> first | exact h.elim | skip
      rename_i ti hti
      obtain ⟨r, h1, _, hK⟩ := eqV_sound (lk_ok htab hti) h
      exact ⟨_, fun w => by simp only [Sem.run_bind, eqGuard_eqV (lk_ok htab hti) h, Result.andThen_ok, h1], hK⟩
    · split at h <;> first | exact h.elim | skip
      rename_i ti hti
      obtain ⟨r, _, h1, hK⟩ := eqV_sound (lk_ok htab hti) h
      exact ⟨_, fun w => by simp only [Sem.run_bind, eqGuard_eqV (lk_ok htab hti) h, Result.andThen_ok, h1], hK⟩

def isStr : TK → Bool | .string => true | _ => false
def isSlice : TK → Bool | .slice _ => true | _ => false

/-- 'convert' where nothing is made: between integers; a string to a string; bytes to a string (they are read). -/
def convQ (tab : Tab) (R : Rd) (src dst : TypeId) (v : Value) (K : Value → Prop) : Prop :=
  match lk tab src, lk tab dst with
  | some si, some di =>
    match si.kind, di.kind, v with
    | .int _, .int k, .int _ n => ∀ z : Int, z = k.wrap n → K (.int k z)
    | .string, .string, .string s => K (.string s)
    | .slice e, .string, .slice A n _ => (match lk tab e with
      | some ei => (match ei.kind with
        | .int .u8 => ∃ l : List UInt8, l.length = n ∧ (∀ j b, l[j]? = some b → ∃ a, A = some a ∧ R (a.add j) (.int .u8 b.toNat)) ∧ K (.string ⟨⟨l⟩⟩)
        | _ => False)
      | .none => False)
    | _, _, _ => False
  | _, _ => False

def boundLo : Option Value → Option Int
  | .none => some 0
  | some (.int _ n) => some n
  | _ => .none
def boundHi (d : Nat) : Option Value → Option Int
  | .none => some d
  | some (.int _ n) => some n
  | _ => .none
def evO (ρ : List Value) : Option Operand → Option Value
  | .none => .none
  | some x => some (ev ρ x)

def sliceBase (A : Option Addr) (cap l sz : Nat) : Option Addr := if cap = l then A else A.map (·.add (l * sz))

def partQ (tab : Tab) (cs : List Value) (off : Nat) (t : TypeId) (K : Value → Prop) : Prop :=
  match lk tab t with
  | some ti => (match ti.kind.agg with
    | true => K (.agg ⟨(cs.drop off).take ti.size⟩)
    | false => nthK K cs off)
  | .none => False

def lenQ (tab : Tab) (t : TypeId) (v : Value) (K : Value → Prop) : Prop :=
  match lk tab t with
  | some ti => (match ti.kind, v with
    | .string, .string s => K (.int .i64 s.data.toList.length)
    | .slice _, .slice _ n _ => K (.int .i64 n)
    | .array n _, _ => K (.int .i64 n)
    | _, _ => False)
  | .none => False

def setRange : List Value → Nat → List Value → List Value
  | cs, _, [] => cs
  | cs, off, v :: r => setRange (cs.set off v) (off + 1) r

/-- the parts of a struct or an array, laid over its zero value -/
def fillQ (place : Nat → Option (Nat × Nat)) (ρ : List Value) (K : List Value → Prop) : List (Nat × Operand) → List Value → Prop
  | [], cs => K cs
  | (i, x) :: r, cs =>
    match place i with
    | some (off, size) => evK ρ x fun v => chkB (Nat.beq (cls v).length size && Nat.ble (off + (cls v).length) cs.length) (fillQ place ρ K r (setRange cs off (cls v)))
    | .none => False

def structPlace (tab : Tab) : List (Nat × TypeId) → Nat → Option (Nat × Nat)
  | [], _ => .none
  | (off, t) :: _, 0 => (match lk tab t with | some ti => some (off, ti.size) | .none => .none)
  | _ :: r, n + 1 => structPlace tab r n

def allIn (tab : Tab) : List (Nat × TypeId) → Bool
  | [] => true
  | (_, t) :: r => (match lk tab t with | some _ => allIn tab r | .none => false)

def opQ (tab : Tab) (R : Rd) (ρ : List Value) (K : Value → Prop) : Op → Prop
  | .move x => evK ρ x K
  | .assign x => evK ρ x K
  | .pick c a b => evK ρ c fun vc => (match vc with
    | .bool t => (t = true → evK ρ a K) ∧ (t = false → evK ρ b K)
    | _ => False)
  | .load T a => evK ρ a fun p => (match p, lk tab T with
    | .pointer (some ad), some ti => (match ti.kind.agg with
      | true => ∃ vs, RdN R ad vs ∧ vs.length = ti.size ∧ K (.agg ⟨vs⟩)
      | false => ∃ v, R ad v ∧ K v)
    | _, _ => False)
  | .nilCheck x => evK ρ x fun v => (match v with
    | .pointer (some a) => K (.pointer (some a))
    | .func (.func f) a b => K (.func (.func f) a b)
    | _ => False)
  | .binOp op t x y _ => evK ρ x fun a => evK ρ y fun b => binQ tab op t a b K
  | .unOp op _ x => evK ρ x fun v => (match op, v with
    | .not, .bool b => K (.bool (!b))
    | .neg, .int k n => ∀ z : Int, z = k.wrap (0 - n) → K (.int k z)
    | .xor, .int k n => ∀ z : Int, z = bitsOp .xor k (if k.signed then -1 else k.max) n → K (.int k z)
    | _, _ => False)
  | .convert src dst x => evK ρ x fun v => convQ tab R src dst v K
  | .makeFunc fn first captured => evsK ρ first.toList fun f => evsK ρ captured.toList fun c => K (.func fn ⟨f⟩ ⟨c⟩)
  | .build T parts => (match lk tab T with
    | some ti => (match ti.kind with
      | .struct fs => chkB (allIn tab fs) <| fillQ (structPlace tab fs) ρ (fun cs => K (.agg ⟨cs⟩)) parts.toList (cls ti.zero)
      | .array _ e => (match lk tab e with
        | some ei => fillQ (fun i => some (i * ei.size, ei.size)) ρ (fun cs => K (.agg ⟨cs⟩)) parts.toList (cls ti.zero)
        | .none => False)
      | _ => False)
    | .none => False)
  | .slice T x lo hi .none => evK ρ x fun v => (match lk tab T with
    | some ti => (match ti.kind, v with
      | .string, .string s => ∃ l h : Nat, boundLo (evO ρ lo) = some (l : Int) ∧ boundHi s.data.toList.length (evO ρ hi) = some (h : Int) ∧ l ≤ h ∧ h ≤ s.data.toList.length ∧ K (.string ⟨⟨(s.data.toList.drop l).take (h - l)⟩⟩)
      | .slice e, .slice A n cap => (match lk tab e with
        | some ei => ∃ l h : Nat, boundLo (evO ρ lo) = some (l : Int) ∧ boundHi n (evO ρ hi) = some (h : Int) ∧ l ≤ h ∧ h ≤ cap ∧ K (.slice (sliceBase A cap l ei.size) (h - l) (cap - l))
        | .none => False)
      | .array n e, .pointer (some a) => (match lk tab e with
        | some ei => ∃ l h : Nat, boundLo (evO ρ lo) = some (l : Int) ∧ boundHi n (evO ρ hi) = some (h : Int) ∧ l ≤ h ∧ h ≤ n ∧ K (.slice (sliceBase (some a) n l ei.size) (h - l) (n - l))
        | .none => False)
      | _, _ => False)
    | .none => False)
  | .fieldAddr S x f => evK ρ x fun v => (match v, lk tab S with
    | .pointer (some a), some ti => (match ti.kind with
      | .struct fs => nthK (fun fd : Nat × TypeId => match lk tab fd.2 with
        | some fi => chkB (Nat.blt 0 fi.size) (K (.pointer (some (addA a fd.1))))
        | .none => False) fs f
      | _ => False)
    | _, _ => False)
  | .field S x f => evK ρ x fun v => (match v, lk tab S with
    | .agg c, some ti => (match ti.kind with
      | .struct fs => nthK (fun fd : Nat × TypeId => partQ tab c.toList fd.1 fd.2 K) fs f
      | _ => False)
    | _, _ => False)
  | .indexAddr T x i => evK ρ x fun v => evK ρ i fun iv => (match iv, lk tab T with
    | .int _ i, some ti => (match ti.kind, v with
      | .slice e, .slice A n _ => (match lk tab e with
        | some ei => 0 ≤ i ∧ i < n ∧ ∃ a, A = some a ∧ K (.pointer (some (addA a (i.toNat * ei.size))))
        | .none => False)
      | .array n e, .pointer (some a) => (match lk tab e with
        | some ei => 0 ≤ i ∧ i < (n : Int) ∧ K (.pointer (some (addA a (i.toNat * ei.size))))
        | .none => False)
      | _, _ => False)
    | _, _ => False)
  | .index T x i => evK ρ x fun v => evK ρ i fun iv => (match iv, lk tab T with
    | .int _ i, some ti => (match ti.kind, v with
      | .string, .string s => 0 ≤ i ∧ ∃ b : UInt8, s.data.toList[i.toNat]? = some b ∧ K (.int .u8 b.toNat)
      | .array n e, .agg c => (match lk tab e with
        | some ei => 0 ≤ i ∧ i < (n : Int) ∧ partQ tab c.toList (i.toNat * ei.size) e K
        | .none => False)
      | _, _ => False)
    | _, _ => False)
  | .extract x i => evK ρ x fun v => (match v with
    | .tuple vs => nthK K vs.toList i
    | _ => False)
  | .call { callee := .builtin .len, args, argTypes } => (match args.toList, argTypes.toList with
    | [x], [t] => evK ρ x fun v => lenQ tab t v K
    | _, _ => False)
  | .call { callee := .builtin .max, args, .. } => (match args.toList with
    | [x, y] => evK ρ x fun a => evK ρ y fun b => (match a, b with
      | .int k m, .int _ n => ∀ z : Int, z = max m n → K (.int k z)
      | _, _ => False)
    | _ => False)
  | .call { callee := .builtin .min, args, .. } => (match args.toList with
    | [x, y] => evK ρ x fun a => evK ρ y fun b => (match a, b with
      | .int k m, .int _ n => ∀ z : Int, z = min m n → K (.int k z)
      | _, _ => False)
    | _ => False)
  | _ => False

end Go.Proofs.YtbgfnofjnbpdgaaDoor
