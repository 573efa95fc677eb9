/-
  Contract: built.
-/
import Derived.Test.YtoddabjacjkjbaaDoorSac
namespace Go.Proofs.YtoddabjacjkjbaaDoor
open Go Go.RowKit
set_option linter.unusedVariables false

/-! ### built -/
def SOpsR (R : Rd) (A : Option Addr) (cap : Nat) (l : List SOp) : Prop := SlR R 15 (.slice A l.length cap) l.length (sops l)
abbrev C00 : Lg := fun _ => []
theorem flatC00 : flatC C00 = [] := rfl
/-- A log and its list, made anew. -/
def Built (C : Lg) (v : Value) (h : Hp) : Prop := ∃ g r st c A cap, v = .tuple ⟨[.pointer (some ⟨g, 0, .none⟩), .slice A (flatC C).length cap]⟩ ∧ LogOk st c ∧ (∀ w, chainOf st w = C w) ∧ grow (flatC C).length A ∧ h = [.blk g 161 [.map (some r)], logM r st c, .rows (rowsOf st), rowM A cap C]

set_option maxRecDepth 100000 in
set_option maxHeartbeats 8000000 in
theorem built_ok (R : Rd) (hG : ShaG R) {A : Option Addr} {cap : Nat} {l : List SOp} (hs : SOpsR R A cap l) (hn : l.length ≤ 4000) (hok : ∀ x ∈ l, x.s.Ok) :
    Fn Tryd.prog 32 [.slice A l.length cap] [] R (fun v h => Built (runC C00 l) v h) := by
  refine fn_of_vc mixed tabOk Tryd.func32 rfl (by kernel_rfl) (Nat.le_of_ble_eq_true rfl) ?_
  refine ⟨[], _, New_okS _, ?_⟩
  rintro _ _ ⟨g, rfl, r, st, c, hlok, hch, rfl⟩
  refine ⟨rfl, fun gm => ?_⟩
  refine ⟨[none, none, none, none, none, some 5, some 6, none, none, some 9, some 10, some 11, some 12, some 13, some 14, some 15, some 16, some 17, some 18, some 19, some 20, some 21, some 22, some 23, some 24, some 25, some 26, some 27, some 28, some 29, some 30], [5, 6], Nat × Nat × List WR × Nat × Option Addr × Nat, fun ⟨k, r, st, c, A, cap⟩ => k ≤ l.length ∧ LogOk st c ∧ (∀ w, chainOf st w = runC C00 (l.take k) w) ∧ grow (flatC (runC C00 (l.take k))).length A,
    fun ⟨k, r, st, c, A, cap⟩ => [.slice A (flatC (runC C00 (l.take k))).length cap, .int .i64 k], fun ⟨k, r, st, c, A, cap⟩ => [.blk g 161 [.map (some r)], logM r st c, .rows (rowsOf st), rowM A cap (runC C00 (l.take k))], fun ⟨k, _⟩ => l.length - k,
    (0, r, st, c, some ⟨gm, 0, .none⟩, 0), ⟨Nat.zero_le _, hlok, hch, .inl rfl⟩, ⟨rfl, rfl, trivial⟩, Ent.refl _, ?_⟩
  clear hlok hch
  rintro ⟨k, r, st, c, A', cap'⟩ ⟨hk, hlok, hch, hg⟩ js
  obtain ⟨hgood, hcnt⟩ : GoodC (runC C00 (l.take k)) ∧ countC (runC C00 (l.take k)) ≤ k := by
    obtain ⟨h1, h2⟩ := runC_good GoodC.empty (l.take k)
    rw [count_empty, List.length_take] at h2
    have hk : k ≤ l.length := hk
    exact ⟨h1, by show countC (runC (fun _ => []) (l.take k)) ≤ k; omega⟩
  refine ⟨fun hb => ?_, fun hb => ?_⟩
  · replace hb := of_decide_eq_true hb
    have hil : k < l.length := by omega
    clear hb
    have hget := List.getElem?_eq_getElem hil
    have hmem : l[k] ∈ l := List.getElem_mem hil
    generalize l[k] = x at hget hmem
    have hrun := runC_take (C := C00) hget
    obtain ⟨a, hA, hr⟩ := slr_at (c := SOp.cells) (fun _ => rfl) (by omega) hs hget
    refine ⟨by omega, by omega, a, hA, ?_⟩
    refine ⟨x.cells, fun j u hu => .inl (rdnS (vs := x.cells) (fun j u hu => hr j u hu) j u hu), rfl, ?_⟩
    refine ⟨[0, 0, 0], _, play_ok _ (hG.rh _) ⟨r, st, c, hlok, hch, rfl⟩ hgood (by omega) x (hok x hmem), ?_⟩
    clear hlok hch
    rintro _ _ ⟨rfl, r, st, c, hlok, hch, rfl⟩
    refine ⟨by omega, by omega, a, hA, ?_⟩
    refine ⟨x.cells, fun j u hu => .inl (rdnS (vs := x.cells) (fun j u hu => hr j u hu) j u hu), rfl, ?_⟩
    refine ⟨[0], _, model_ok _ hg hgood (by omega) x (hok x hmem), ?_⟩
    rw [← hrun]
    rw [← hrun] at hch
    rintro _ _ ⟨A2, cap2, rfl, hg2, rfl⟩
    (intro z hz; obtain rfl : z = ((k + 1 : Nat) : Int) := (by first | (rw [IntKind.wrap_i64] at hz; omega) | (rw [IntKind.wrap_u64] at hz; omega) | omega); clear hz)
    exact ⟨rfl, (k + 1, r, st, c, A2, cap2), ⟨hil, hlok, hch, hg2⟩, by show l.length - (k + 1) < l.length - k; omega, ⟨rfl, rfl, trivial⟩, Ent.refl _, rfl⟩
  · replace hb := of_decide_eq_false hb
    obtain rfl : k = l.length := by omega
    rw [List.take_length] at hch hg
    refine ⟨_, Ent.refl _, ?_⟩
    show Built (runC C00 l) (.tuple ⟨[.pointer (some ⟨g, 0, .none⟩), .slice A' (flatC (runC C00 (l.take l.length))).length cap']⟩) [.blk g 161 [.map (some r)], logM r st c, .rows (rowsOf st), rowM A' cap' (runC C00 (l.take l.length))]
    rw [List.take_length]
    exact ⟨g, r, st, c, A', cap', rfl, hlok, hch, hg, rfl⟩

end Go.Proofs.YtoddabjacjkjbaaDoor
