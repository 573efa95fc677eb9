/-
  Top: shapes of the arguments of TopAlteredPart; what an accepted part says, plain.
-/
import Derived.Test.YtgnmbgbiajgpeaaDoorTpc
import Derived.Test.YtgnmbgbiajgpeaaDoorTon
namespace Go.Proofs.YtgnmbgbiajgpeaaDoor
open Go Go.RowKit
set_option linter.unusedVariables false
set_option linter.unusedSimpArgs false

theorem SeenV.u16T {R : Rd} {v : Value} (h : SeenV R (.int .u16) v) : ∃ n : Nat, v = .int .u16 n ∧ n ≤ 65535 := by
  obtain ⟨⟨n, hn, hw⟩, hv⟩ := h
  rw [cells_one hv] at hn
  simp only [List.cons.injEq, and_true] at hn
  subst hn
  have : 0 ≤ n ∧ n ≤ 65535 := by simpa [Lit.wf, IntKind.has, IntKind.min, IntKind.max, IntKind.bits, IntKind.signed] using hw
  exact ⟨n.toNat, by congr 1; omega, by omega⟩
/-- A part with its slices. -/
abbrev PtE := Pt × Value × Value
def pteC (e : PtE) : List Value := ptC e.1 e.2.1 e.2.2
structure PteR (R : Rd) (e : PtE) : Prop where
  d : Bs R e.2.1 e.1.dt
  s : Ss R e.2.2 e.1.path
  o : I64T e.1.off
theorem PtT.of {R : Rd} {xs : List Value} (hs : Seen R PtShpT xs) : ∃ e : PtE, xs = pteC e ∧ PteR R e := by
  obtain ⟨⟨⟨x0, e0, _⟩, ⟨n1, e1, w1⟩, hl2⟩, ⟨n2, e2, w2⟩, hsd, hsl, hl⟩ := hs
  obtain ⟨d, e3, hdv⟩ := seenT_sl hsd
  obtain ⟨v, e4, hv⟩ := seenT_sl hsl
  match xs, hl with
  | [v0, v1, v2, v3, v4], _ =>
    simp only [List.drop_zero, List.drop_succ_cons, List.take_succ_cons, List.take_zero, List.cons.injEq, and_true] at e0 e1 e2 e3 e4
    subst e0 e1 e2 e3 e4
    obtain ⟨⟨x0⟩⟩ := x0
    obtain ⟨l, hl, hss, _⟩ := hv.strings
    obtain ⟨b, hbl, hbs⟩ := hdv.bsT
    exact ⟨(⟨x0, n1, n2, b, l⟩, _, _), rfl, hbs, hss, ⟨(i64_rngT w2).1, (i64_rngT w2).2⟩⟩
theorem SeenV.partsT {R : Rd} {v : Value} (h : SeenV R (.sl 5 PtShpT) v) : ∃ (l : List PtE) (A : Option Addr) (cap : Nat), v = .slice A l.length cap ∧ SlR R 5 (.slice A l.length cap) l.length (l.flatMap pteC) ∧ l.length ≤ maxLen ∧ ∀ x ∈ l, PteR R x := by
  obtain ⟨l, hok, hl, hs⟩ := h.slice pteC (PteR R) (fun _ _ => rfl) fun xs _ hx => by
    obtain ⟨e, h1, h2⟩ := PtT.of hx
    exact ⟨e, h2, h1⟩
  have hs0 := hs
  obtain ⟨_, A, cap, rfl, _⟩ := hs
  exact ⟨l, A, cap, rfl, hs0, hl, hok⟩
theorem pte_at {R : Rd} {A : Option Addr} {n cap m : Nat} {l : List PtE} (h : SlR R 5 (.slice A n cap) m (l.flatMap pteC)) {i : Nat} {x : PtE} (hx : l[i]? = some x) : ∃ a, A = some a ∧ ∀ j u, (pteC x)[j]? = some u → R (a.add (i * 5 + j)) u := by
  obtain ⟨_, A', cap', hv, hr⟩ := h
  cases hv
  obtain ⟨a, rfl, _⟩ := hr (i * 5 + 0) _ (flat_at (sz := 5) (c := pteC) (fun _ _ => rfl) hx (j := 0) (u := .string ⟨⟨x.1.st⟩⟩) rfl)
  refine ⟨a, rfl, fun j u hu => ?_⟩
  obtain ⟨a', ha, hR⟩ := hr (i * 5 + j) u (flat_at (sz := 5) (c := pteC) (fun _ _ => rfl) hx hu)
  cases ha
  exact hR
/-- What a part that is received says. -/
theorem acc_of_see {p : Pc} (w : VPc p) {m : Nat} {dt : Str} {path : List Str} (hm : m < partsN p.dt.length) (h : seeB (p.sums.getD p.ix.toNat []) (p.dt.length : Nat) 512 ((m : Nat) : Int) dt path = true) :
    Acc (blockLeaves 512 p.dt) (leafOf dt) m path.reverse ∧ sumsB path = true ∧ dt.length = min 512 (p.dt.length - m * 512) := by
  unfold partsN at hm
  have hn : p.dt.length ≠ 0 := by omega
  have hd : m ≤ (p.dt.length - 1) / 512 := by omega
  rw [← w.sum] at h
  have h : seeB (rootOf (blockLeaves 512 p.dt)) ((p.dt.length : Nat) : Int) ((512 : Nat) : Int) ((m : Nat) : Int) dt path = true := h
  rw [seeB_nat (by omega) (by decide) hd] at h
  split at h
  · rename_i hl
    unfold verifyB at h
    simp only [Bool.and_eq_true, decide_eq_true_eq, beq_iff_eq, Int.toNat_natCast] at h
    obtain ⟨⟨⟨⟨⟨_, _⟩, h3⟩, _⟩, h5⟩, h6, h7⟩ := h
    have hbl : (blockLeaves 512 p.dt).length = (p.dt.length - 1) / 512 + 1 := by
      rw [blockLeaves_length (by decide) _ p.dt rfl]
      unfold countN
      rw [if_neg hn]
    refine ⟨⟨blockLeaves_sums _ _ _ rfl, h3, fun s hs => mem_sums h5 s (List.mem_reverse.1 hs), by omega, ?_, ?_⟩, h5, hl⟩
    · rw [hbl]; exact h6
    · rw [hbl]; exact h7
  · cases h
/-- A part that is received lies within the piece. -/
theorem recv_at {h : Hd} {sls : List Slot} {x : Pt} (e : recvE h sls x = 0) : (thereB h.sz x.off = true ∧ x.st = h.st ∧ x.ix = h.ix) ∧ sls.getD (x.off.toNat / 512) .none = .none ∧ seeB (h.sums.getD h.ix.toNat []) h.sz 512 ((x.off.toNat / 512 : Nat) : Int) x.dt x.path = true := by
  by_cases hn : thereB h.sz x.off = true ∧ x.st = h.st ∧ x.ix = h.ix
  case neg => rw [recvE_no hn] at e; cases e
  cases hs : sls.getD (x.off.toNat / 512) .none with
  | some y => rw [recvE_there hn hs] at e; cases e
  | none =>
    rw [recvE_see hn hs] at e
    split at e
    · exact ⟨hn, rfl, by assumption⟩
    · cases e
theorem there_mul {n : Nat} {off : Int} (h : thereB (n : Nat) off = true) : off = ((off.toNat / 512 * 512 : Nat) : Int) ∧ off.toNat / 512 < partsN n ∧ off.toNat / 512 * 512 < n := by
  have h := of_decide_eq_true h
  unfold partsN
  omega
theorem block_sub (x : Str) (m : Nat) : blockOf x 512 m = (x.drop (m * 512)).take (min x.length (m * 512 + 512) - m * 512) := by
  unfold blockOf
  congr 1
  omega
theorem one_blk {R : Rd} {h : Hp} (i j : Nat) {g g2 n : Nat} {e e2 : TypeId} {x : Str} (hn : n = x.length) (hi : h[i]? = some (.row (some ⟨g, 0, .none⟩) 1 1 e 1 [.slice (some ⟨g2, 0, .none⟩) n n] (0, 0))) (hj : h[j]? = some (.row (some ⟨g2, 0, .none⟩) n n e2 1 (BV x) (0, 0))) :
    Bss true (RH R h) (.slice (some ⟨g, 0, .none⟩) 1 1) [x] := by
  subst hn
  exact Bss.own (l := [x]) i hi (.inr ⟨g, rfl⟩) rfl (VsR.snoc (VsR.nil _ _) ⟨some ⟨g2, 0, .none⟩, x.length, rfl, fun _ => Nat.le_refl _, BsR.own j hj rfl rfl (.inr ⟨g2, rfl⟩)⟩)

end Go.Proofs.YtgnmbgbiajgpeaaDoor
