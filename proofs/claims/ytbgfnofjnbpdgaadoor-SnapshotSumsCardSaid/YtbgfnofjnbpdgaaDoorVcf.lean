/-
  The operations that make memory, write it or call: what each asks and gives, as a formula; and that the formula is sound.
-/
import Derived.Test.YtbgfnofjnbpdgaaDoorVce
namespace Go.Proofs.YtbgfnofjnbpdgaaDoor
open Go Go.RowKit

def snocK (x : HA) (K : Hp → Prop) : Hp → Prop
  | [] => K [x]
  | y :: r => snocK x (fun l => K (y :: l)) r
def apHK (h' : Hp) (K : Hp → Prop) : Hp → Prop
  | [] => K h'
  | y :: r => apHK h' (fun l => K (y :: l)) r
def apVK (l' : List Value) (K : List Value → Prop) : List Value → Prop
  | [] => K l'
  | y :: r => apVK l' (fun l => K (y :: l)) r
def takeK : Nat → Hp → (HA → Hp → Prop) → Prop
  | _, [], _ => False
  | 0, x :: r, K => K x r
  | n + 1, x :: r, K => takeK n r fun y r' => K y (x :: r')
def pickK : List Nat → Hp → (Hp → Hp → Prop) → Prop
  | [], h, K => K [] h
  | i :: is, h, K => takeK i h fun x r => pickK is r fun hs rest => K (x :: hs) rest
def setHK (y : HA) : Nat → Hp → (Hp → Prop) → Prop
  | _, [], K => K []
  | 0, _ :: r, K => K (y :: r)
  | n + 1, x :: r, K => setHK y n r fun r' => K (x :: r')

theorem snocK_eq (x : HA) : ∀ (h : Hp) (K : Hp → Prop), snocK x K h = K (h ++ [x])
  | [], _ => rfl
  | y :: r, K => by simp [snocK, snocK_eq x r]
theorem apHK_eq (h' : Hp) : ∀ (h : Hp) (K : Hp → Prop), apHK h' K h = K (h ++ h')
  | [], _ => rfl
  | y :: r, K => by simp [apHK, apHK_eq h' r]
theorem apVK_eq (h' : List Value) : ∀ (h : List Value) (K : List Value → Prop), apVK h' K h = K (h ++ h')
  | [], _ => rfl
  | y :: r, K => by simp [apVK, apVK_eq h' r]
theorem takeK_sound : ∀ (n : Nat) (h : Hp) (K : HA → Hp → Prop), takeK n h K → ∃ x r, h.Perm (x :: r) ∧ K x r
  | n, [], _, h => by cases n <;> exact False.elim h
  | 0, x :: r, K, h => ⟨x, r, List.Perm.refl _, h⟩
  | n + 1, x :: r, K, h => by
    obtain ⟨y, r', hp, hk⟩ := takeK_sound n r _ h
    exact ⟨y, x :: r', (hp.cons x).trans (List.Perm.swap y x r'), hk⟩
theorem pickK_sound : ∀ (is : List Nat) (h : Hp) (K : Hp → Hp → Prop), pickK is h K → ∃ hs rest, h.Perm (hs ++ rest) ∧ K hs rest
  | [], h, K, hh => ⟨[], h, List.Perm.refl _, hh⟩
  | i :: is, h, K, hh => by
    obtain ⟨x, r, hp, hk⟩ := takeK_sound i h _ hh
    obtain ⟨hs, rest, hp2, hk2⟩ := pickK_sound is r _ hk
    exact ⟨x :: hs, rest, hp.trans (hp2.cons x), hk2⟩
theorem setHK_eq (y : HA) : ∀ (n : Nat) (h : Hp) (K : Hp → Prop), setHK y n h K = K (h.set n y)
  | n, [], K => by cases n <;> rfl
  | 0, x :: r, K => rfl
  | n + 1, x :: r, K => by simp [setHK, setHK_eq y n r]

/-- n copies of the cells of a zero value -/
def repl (z : List Value) : Nat → List Value
  | 0 => []
  | n + 1 => z ++ repl z n

/-- What 'append' adds: the elements of a slice, or the bytes of a string. -/
def srcE (R : Rd) (sz : Nat) (x : Value) (K : Nat → List Value → Prop) : Prop :=
  match x with
  | .slice A m _ => ∃ news : List Value, news.length = m * sz ∧ (∀ j u, news[j]? = some u → ∃ a, A = some a ∧ R (a.add j) u) ∧ K m news
  | .string s => sz = 1 ∧ K s.data.toList.length (s.data.toList.map fun b => .int .u8 b.toNat)
  | _ => False

def isSrc : TK → Bool
  | .slice _ | .string => true
  | _ => false

/-- where the result of an append lies -/
def grow (n : Nat) (A : Option Addr) : Prop := n = 0 ∨ ∃ g, A = some ⟨g, 0, .none⟩

def appE (tab : Tab) (R : Rd) (h : Hp) (T U : TypeId) (s x : Value) (K : Value → Hp → Prop) : Prop :=
  match lk tab T, lk tab U, s with
  | some ti, some ui, .slice A n cap =>
    (match ti.kind with
    | .slice e => (match lk tab e with
      | some ei => chkB (isSrc ui.kind && Nat.blt 0 ei.size && Nat.beq (cls ei.zero).length ei.size) <| srcE (RH R h) ei.size x fun m news => allOne news = true ∧ (n + m) * ei.bytes ≤ 140737488355328 ∧ n + m ≤ maxLen ∧
          ((A = .none ∧ n = 0 ∧ cap = 0 ∧ ∀ (A' : Option Addr) (cap' : Nat), grow (0 + m) A' → snocK (.row A' (0 + m) cap' e ei.size ([] ++ news) (0, 0)) (fun h' => K (.slice A' (0 + m) cap') h') h) ∨
           ∃ i, nthK (fun y => (match y with
            | .row A1 n1 cap1 e1 sz1 xs fz => A1 = A ∧ n1 = n ∧ cap1 = cap ∧ e1 = e ∧ sz1 = ei.size ∧ fz = (0, 0) ∧
                ∀ (A' : Option Addr) (cap' : Nat), grow (n + m) A' → setHK (.row A' (n + m) cap' e ei.size (xs ++ news) (0, 0)) i h fun h' => K (.slice A' (n + m) cap') h'
            | _ => False)) h i)
      | .none => False)
    | _ => False)
  | _, _, _ => False

/-- 'copy': the first elements of the source are stored into the slice. -/
def copyE (tab : Tab) (R : Rd) (h : Hp) (T : TypeId) (s x : Value) (K : Value → Hp → Prop) : Prop :=
  match lk tab T, s with
  | some ti, .slice A n _ =>
    (match ti.kind with
    | .slice e => (match lk tab e with
      | some ei => srcE (RH R h) ei.size x fun m news => allOne news = true ∧ ∀ c : Nat, c = min m n →
          (c = 0 ∧ K (.int .i64 c) h) ∨ ∃ ad, A = some ad ∧ ∃ i, nthK (fun y => stE y ad (news.take (c * ei.size)) fun y' => setHK y' i h fun h' => K (.int .i64 c) h') h i
      | .none => False)
    | _ => False)
  | _, _ => False

def makeE (tab : Tab) (h : Hp) (T : TypeId) (l c : Value) (K : Value → Hp → Prop) : Prop :=
  match lk tab T, l, c with
  | some ti, .int _ l, .int _ c =>
    (match ti.kind with
    | .slice e => (match lk tab e with
      | some ei => chkB (Nat.blt 0 ei.size && Nat.beq (cls ei.zero).length ei.size && allOne (cls ei.zero)) <| 0 ≤ l ∧ l ≤ c ∧ (ei.bytes : Int) * c ≤ 281474976710656 ∧ c ≤ (maxLen : Int) ∧
          ∀ g : Nat, snocK (.row (some ⟨g, 0, .none⟩) l.toNat c.toNat e ei.size (repl (cls ei.zero) l.toNat) (0, 0)) (fun h' => K (.slice (some ⟨g, 0, .none⟩) l.toNat c.toNat) h') h
      | .none => False)
    | _ => False)
  | _, _, _ => False

def callE (P : Program) (R : Rd) (h : Hp) (f : FuncId) (args : List Value) (K : Value → Hp → Prop) : Prop :=
  ∃ is : List Nat, pickK is h fun hs rest => ∃ Post : Value → Hp → Prop, Fn P f args hs (RH R rest) Post ∧ ∀ v h', Post v h' → apHK h' (fun h2 => K v h2) rest

def isU8 : TK → Bool
  | .int .u8 => true
  | _ => false

/-- '[]byte("..")' of a constant: the row is marked behind its end. -/
def markE (h : Hp) (A : Option Addr) (n cap : Nat) (K : Value → Hp → Prop) : Prop :=
  ∃ i, nthK (fun y => (match y with
    | .row A1 n1 cap1 e1 sz1 xs fz => A = A1 ∧ (∃ g, A1 = some ⟨g, 0, .none⟩) ∧ sz1 = 1 ∧ fz = (0, 0) ∧ setHK (.row A1 n1 cap1 e1 1 xs (cap1, cap1 + 1)) i h fun h' => K (.slice A n cap) h'
    | _ => False)) h i

/-! ### maps -/
/-- Keys that are compared as integers or as texts. -/
def likeKey : Value → Value → Bool
  | .int k _, .int k' _ => Nat.beq (kindNo k) (kindNo k')
  | .string _, .string _ => true
  | _, _ => false
def sameKey : Value → Value → Bool
  | .int _ a, .int _ b => decide (a = b)
  | .string a, .string b => decide (a.data.toList = b.data.toList)
  | _, _ => false
def keyKind : TK → Value → Bool
  | .int k, .int k' _ => Nat.beq (kindNo k) (kindNo k')
  | .string, .string _ => true
  | _, _ => false
/-- The entry of a key, with its place. -/
def findE (k : Value) : List MapEntry → Nat → Option (Nat × Value)
  | [], _ => .none
  | e :: r, i => (match sameKey k e.key with | true => some (i, e.val) | false => findE k r (i + 1))
def setE (k x : Value) : List MapEntry → Nat → List MapEntry
  | [], _ => []
  | e :: r, 0 => { e with key := k, val := x } :: r
  | e :: r, n + 1 => e :: setE k x r n
def okV (ok : Bool) (v : Value) (b : Bool) : Value := match ok with | true => .tuple ⟨[v, .bool b]⟩ | false => v

/-- What a look-up finds: the value of the key's entry, or the zero value. -/
def foundE (k : Value) (es : List MapEntry) (z v : Value) (b : Bool) : Prop :=
  (∃ j, findE k es 0 = some (j, v) ∧ b = true) ∨ (findE k es 0 = .none ∧ v = z ∧ b = false)
/-- What a store makes of the entries and the clock. -/
def updE (k x : Value) (es : List MapEntry) (c : Nat) (es' : List MapEntry) (c' : Nat) : Prop :=
  (∃ j v, findE k es 0 = some (j, v) ∧ es' = setE k x es j ∧ c' = c) ∨ (findE k es 0 = .none ∧ es' = es ++ [⟨k, x, c⟩] ∧ c' = c + 1)

def mapTab (tab : Tab) (T : TypeId) (K : TI → TI → Prop) : Prop :=
  match lk tab T with
  | some ti => (match ti.kind with
    | .map kt et => (match lk tab kt, lk tab et with
      | some ki, some ei => K ki ei
      | _, _ => False)
    | _ => False)
  | .none => False

def lookE (tab : Tab) (h : Hp) (T : TypeId) (m k : Value) (ok : Bool) (K : Value → Hp → Prop) : Prop :=
  mapTab tab T fun ki ei => chkB (keyKind ki.kind k) (match m with
    | .map .none => K (okV ok ei.zero false) h
    | .map (some r) => ∃ i, nthK (fun y => (match y with
      | .obj r' (.map es _) => r' = r ∧ (∀ e ∈ es.toList, likeKey k e.key = true) ∧ ∀ (v : Value) (b : Bool), foundE k es.toList ei.zero v b → K (okV ok v b) h
      | _ => False)) h i
    | _ => False)

def mupdE (tab : Tab) (h : Hp) (T : TypeId) (m k x : Value) (K : Value → Hp → Prop) : Prop :=
  mapTab tab T fun ki _ => chkB (keyKind ki.kind k) (match m with
    | .map (some r) => ∃ i, nthK (fun y => (match y with
      | .obj r' (.map es c) => r' = r ∧ (∀ e ∈ es.toList, likeKey k e.key = true) ∧
          ∀ (es' : List MapEntry) (c' : Nat), updE k x es.toList c es' c' → setHK (.obj r (.map ⟨es'⟩ c')) i h fun h' => K undef h'
      | _ => False)) h i
    | _ => False)

def rangeE (tab : Tab) (h : Hp) (T : TypeId) (m : Value) (K : Value → Hp → Prop) : Prop :=
  match lk tab T with
  | some ti => (match ti.kind, m with
    | .map _ _, .map .none => ∀ g : Nat, snocK (.obj g (.mapIter .none 0 #[] 0)) (fun h' => K (.pointer (some ⟨g, 0, .none⟩)) h') h
    | .map _ _, .map (some r) => ∃ i, nthK (fun y => (match y with
      | .obj r' (.map _ c) => r' = r ∧ ∀ g : Nat, snocK (.obj g (.mapIter (some r) c #[] c)) (fun h' => K (.pointer (some ⟨g, 0, .none⟩)) h') h
      | _ => False)) h i
    | _, _ => False)
  | .none => False

/-- The next entry of a map that is not written meanwhile. -/
def nextE (h : Hp) (it : Value) (K : Value → Hp → Prop) : Prop :=
  match it with
  | .pointer (some ⟨g, 0, _⟩) => ∃ i, nthK (fun y => (match y with
    | .obj g' (.mapIter .none _ _ _) => g' = g ∧ K (.tuple ⟨[.bool false]⟩) h
    | .obj g' (.mapIter (some m) since seen last) => g' = g ∧ ∃ j, nthK (fun z => (match z with
      | .obj m' (.map es c) => m' = m ∧ (∀ e ∈ es.toList, e.born < since ∧ e.born < last) ∧
          (∀ e ∈ es.toList, e.born ∉ seen.toList → setHK (.obj g (.mapIter (some m) since ⟨seen.toList ++ [e.born]⟩ c)) i h fun h' => K (.tuple ⟨[.bool true, e.key, e.val]⟩) h') ∧
          ((∀ e ∈ es.toList, e.born ∈ seen.toList) → K (.tuple ⟨[.bool false]⟩) h)
      | _ => False)) h j
    | _ => False)) h i
  | _ => False

/-- The entry of the last step. -/
def entryE (h : Hp) (it : Value) (K : Value → Hp → Prop) : Prop :=
  match it with
  | .pointer (some ⟨g, 0, _⟩) => ∃ i, nthK (fun y => (match y with
    | .obj g' (.mapIter (some m) _ seen last) => g' = g ∧ ∃ stamp, seen.toList.getLast? = some stamp ∧ ∃ j, nthK (fun z => (match z with
      | .obj m' (.map es c) => m' = m ∧ c = last ∧ ∃ e, es.toList.find? (fun e => e.born == stamp) = some e ∧ K (.tuple ⟨[e.key, e.val]⟩) h
      | _ => False)) h j
    | _ => False)) h i
  | _ => False

def opE (P : Program) (tab : Tab) (R : Rd) (ρ : List Value) (h : Hp) (K : Value → Hp → Prop) (op : Op) : Prop :=
  match op with
  | .alloc T => (match lk tab T with
    | some ti => ∀ g : Nat, snocK (.blk g T (cls ti.zero)) (fun h' => K (.pointer (some ⟨g, 0, .none⟩)) h') h
    | .none => False)
  | .box T x => evK ρ x fun v => ∀ g : Nat, snocK (.blk g T (cls v)) (fun h' => K (.pointer (some ⟨g, 0, .none⟩)) h') h
  | .store T a x => evK ρ a fun p => evK ρ x fun v => (match p, lk tab T with
    | .pointer (some ad), some ti => (cls v).length = ti.size ∧ allOne (cls v) = true ∧ ∃ i, nthK (fun y => stE y ad (cls v) fun y' => setHK y' i h fun h' => K undef h') h i
    | _, _ => False)
  | .buildSlice T len parts => (match lk tab T with
    | some ti => (match ti.kind with
      | .slice e => (match lk tab e with
        | some ei => chkB (Nat.blt 0 ei.size && Nat.beq (cls ei.zero).length ei.size && Nat.ble (len * ei.size) 16777216) <| fillQ (fun i => some (i * ei.size, ei.size)) ρ (fun cs => allOne cs = true ∧
            ∀ g : Nat, snocK (.row (some ⟨g, 0, .none⟩) len len e ei.size cs (0, 0)) (fun h' => K (.slice (some ⟨g, 0, .none⟩) len len) h') h) parts.toList (repl (cls ei.zero) len)
        | .none => False)
      | _ => False)
    | .none => False)
  | .makeSlice T l c => evK ρ l fun l => evK ρ c fun c => makeE tab h T l c K
  | .convert src dst x => evK ρ x fun v => (match v with
    | .string s => (match lk tab src, lk tab dst with
      | some si, some di => (match si.kind, di.kind with
        | .string, .slice e => (match lk tab e with
          | some ei => chkB (isU8 ei.kind && Nat.beq ei.size 1) <| s.data.toList.length ≤ maxLen ∧ ∀ (g cap : Nat), snocK (.row (some ⟨g, 0, .none⟩) s.data.toList.length cap e 1 (s.data.toList.map fun b => .int .u8 b.toNat) (cap, cap + 1)) (fun h' => K (.slice (some ⟨g, 0, .none⟩) s.data.toList.length cap) h') h
          | .none => False)
        | .string, .string => K (.string s) h
        | _, _ => False)
      | _, _ => False)
    | .slice A n cap => (match lk tab src, lk tab dst with
      | some si, some di => (match si.kind, di.kind with
        | .slice e, .slice _ => (match lk tab e with
          | some ei => chkB (Nat.beq src dst && isU8 ei.kind) (markE h A n cap K)
          | .none => False)
        | _, _ => convQ tab (RH R h) src dst (.slice A n cap) fun v => K v h)
      | _, _ => False)
    | v => convQ tab (RH R h) src dst v fun v => K v h)
  | .call { callee := .value f, args, .. } => evK ρ f fun fv => evsK ρ args.toList fun avs => (match fv with
    | .func (.func f) first cap => apVK cap.toList (fun l => apVK l (fun l => callE P R h f l K) first.toList) avs
    | _ => False)
  | .call { callee := .builtin .append, args, argTypes } => (match args.toList, argTypes.toList with
    | [s, x], [T, U] => evK ρ s fun s => evK ρ x fun x => appE tab R h T U s x K
    | _, _ => False)
  | .call { callee := .builtin .copy, args, argTypes } => (match args.toList, argTypes.toList with
    | [s, x], [T, _] => evK ρ s fun s => evK ρ x fun x => copyE tab R h T s x K
    | _, _ => False)
  | .makeMap T .none => (match lk tab T with
    | some _ => ∀ g : Nat, snocK (.obj g (.map #[] 0)) (fun h' => K (.map (some g)) h') h
    | .none => False)
  | .lookup T x ix ok => evK ρ x fun m => evK ρ ix fun k => lookE tab h T m k ok K
  | .mapUpdate T m k x => evK ρ m fun m => evK ρ k fun k => evK ρ x fun x => mupdE tab h T m k x K
  | .range T x => evK ρ x fun m => rangeE tab h T m K
  | .next it false => evK ρ it fun it => nextE h it K
  | .entry it => evK ρ it fun it => entryE h it K
  | op => opQ tab (RH R h) ρ (fun v => K v h) op

end Go.Proofs.YtbgfnofjnbpdgaaDoor
