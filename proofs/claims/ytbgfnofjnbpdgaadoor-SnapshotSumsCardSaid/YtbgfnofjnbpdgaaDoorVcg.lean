/-
  'opE' is sound.
-/
import Derived.Test.YtbgfnofjnbpdgaaDoorVcf
namespace Go.Proofs.YtbgfnofjnbpdgaaDoor
open Go Go.RowKit

theorem newRow_eq {P : Program} (e : TypeId) (c : Array Value) (w : World) : (newRow e c).run P w = .ok ⟨w.heap.size, 0, .none⟩ (w.alloc (.cells c e)) := rfl

theorem holds_blk_new (w : World) (T : TypeId) (cs : List Value) : (HA.blk w.heap.size T cs).holds (w.alloc (.cells cs.toArray T)) := heap_alloc_new w _

theorem holds_row_new (w : World) (n cap : Nat) (e : TypeId) (sz : Nat) (xs rest : List Value) (h1 : xs.length = n * sz) (h2 : n ≤ cap) (h3 : cap ≤ maxLen) (h4 : ∀ x ∈ xs, x.oneCell' = true) (h5 : (xs ++ rest).length = cap * sz) :
    (HA.row (some ⟨w.heap.size, 0, .none⟩) n cap e sz xs (0, 0)).holds (w.alloc (.cells (xs ++ rest).toArray e)) :=
  ⟨h1, h2, h3, h4, rfl, rfl, rest, heap_alloc_new w _, h5, .inl rfl⟩

theorem length_repl (z : List Value) : ∀ n, (repl z n).length = n * z.length
  | 0 => by simp [repl]
  | n + 1 => by simp [repl, length_repl z n, Nat.add_mul, Nat.add_comm]
theorem mem_repl (z : List Value) : ∀ n x, x ∈ repl z n → x ∈ z
  | 0, _, h => by simp [repl] at h
  | n + 1, x, h => by
    simp only [repl, List.mem_append] at h
    rcases h with h | h
    · exact h
    · exact mem_repl z n x h

theorem getElem?_repl (z : List Value) (hz : 0 < z.length) : ∀ n i, (repl z n)[i]? = if i < n * z.length then z[i % z.length]? else .none
  | 0, i => by simp [repl]
  | n + 1, i => by
    simp only [repl]
    by_cases hi : i < z.length
    · rw [List.getElem?_append_left hi, if_pos (by rw [Nat.add_mul]; omega), Nat.mod_eq_of_lt hi]
    · rw [List.getElem?_append_right (by omega), getElem?_repl z hz n]
      have : (i - z.length) % z.length = i % z.length := by
        conv => rhs; rw [show i = (i - z.length) + z.length by omega, Nat.add_mod_right]
      rw [this, Nat.add_mul]
      by_cases h : i - z.length < n * z.length
      · rw [if_pos h, if_pos (by omega)]
      · rw [if_neg h, if_neg (by omega)]

theorem cells_repl (z : Array Value) (hz : 0 < z.size) (n : Nat) : (Array.range (n * z.size)).map (z[· % z.size]!) = (repl z.toList n).toArray := by
  apply Array.ext_getElem?
  intro i
  simp only [List.getElem?_toArray]
  rw [getElem?_repl z.toList (by simpa using hz)]
  simp only [Array.getElem?_map, Array.length_toList]
  have hm := Nat.mod_lt i hz
  by_cases h : i < n * z.size
  · rw [if_pos h]
    simp [h, hm]
  · rw [if_neg h]
    simp [h]

theorem makeE_sound {P : Program} {tab : Tab} (htab : TabOk P tab) {h : Hp} {w : World} (own : Own h w) {T : TypeId} {l c : Value} {K : Value → Hp → Prop} (hE : makeE tab h T l c K) :
    ∃ v h' w', (Instr.makeSlice T l c).run P w = .ok v w' ∧ Tr w h w' h' ∧ K v h' := by
  unfold makeE at hE
  split at hE <;> first | exact hE.elim | skip
  rename_i ti k1 l k2 c hti
  split at hE <;> first | exact hE.elim | skip
  rename_i e hk
  split at hE <;> first | exact hE.elim | skip
  rename_i ei he
  obtain ⟨hb, hE⟩ := chkB_of hE
  simp only [Bool.and_eq_true] at hb
  have h0 : 0 < ei.size := Nat.le_of_ble_eq_true hb.1.1
  have hz := Nat.eq_of_beq_eq_true hb.1.2
  have h1 := allOne_iff hb.2
  obtain ⟨h2, h3, h4, h5, hK⟩ := hE
  have okE := lk_ok htab he
  obtain ⟨i, hi, i1, i2, i3⟩ := okE.info
  rw [← cls_eq] at hz h1
  rw [Array.length_toList] at hz
  have hm : (maxLen : Int) = 9223372036854775807 := by simp [maxLen]
  have hr := run_make (P := P) w T e i ei.zero ((lk_ok htab hti).slice hk) hi i3 k1 k2 l c h2 h3 (by rw [i2]; exact h4) (by omega)
  have hK := hK w.heap.size
  rw [snocK_eq] at hK
  refine ⟨_, _, _, hr, ?_, hK⟩
  refine Tr.new own (Tr.alloc w _ rfl ?_)
  have hc : (madeCells ei.zero.cells (c.toNat * i.size)) = (repl (cls ei.zero) l.toNat ++ repl (cls ei.zero) (c.toNat - l.toNat)).toArray := by
    unfold madeCells
    rw [i1, ← hz, cells_repl _ (by omega), cls_eq]
    congr 1
    have : ∀ a b : Nat, repl (cls ei.zero) (a + b) = repl (cls ei.zero) a ++ repl (cls ei.zero) b := by
      intro a
      induction a with
      | zero => intro b; simp [repl]
      | succ a ih => intro b; rw [show a + 1 + b = (a + b) + 1 by omega]; simp [repl, ih]
    rw [← this]
    congr 1
    omega
  rw [hc]
  rw [cls_eq] at h1
  have hlen : (cls ei.zero).length = ei.size := by rw [← cls_eq, Array.length_toList, hz]
  refine holds_row_new w _ _ e _ _ _ ?_ (by omega) (by omega) (fun x hx => h1 x (mem_repl _ _ _ hx)) ?_
  · rw [length_repl, hlen]
  · rw [List.length_append, length_repl, length_repl, hlen, ← Nat.add_mul]
    congr 1; omega

theorem RSat.drew {R : Rd} {w : World} (h : RSat R w) : RSat R w.drew := h

/-- what is appended, in every world that has the cells -/
def SrcRun (P : Program) (R : Rd) (sz : Nat) (x : Value) (m : Nat) (news : List Value) : Prop :=
  news.length = m * sz ∧ ∀ w, RSat R w → (Builtin.lenOf x).run P w = .ok m w ∧ ∀ c, c ≤ m → (Builtin.firstCells sz c x).run P w = .ok (news.take (c * sz)).toArray w

theorem srcE_sound {P : Program} {R : Rd} {sz : Nat} {x : Value} {K : Nat → List Value → Prop} (h : srcE R sz x K) : ∃ m news, SrcRun P R sz x m news ∧ K m news := by
  unfold srcE at h
  split at h <;> first | exact h.elim | skip
  · rename_i A m c
    obtain ⟨news, hl, hr, hK⟩ := h
    refine ⟨m, news, ⟨hl, fun w hw => ⟨by simp [Builtin.lenOf], fun c hc => ?_⟩⟩, hK⟩
    have hcl : (news.take (c * sz)).length = c * sz := by
      rw [List.length_take, hl]
      have := Nat.mul_le_mul_right sz hc
      omega
    cases A with
    | none =>
      cases news with
      | nil => simp [Builtin.firstCells]
      | cons u l => obtain ⟨a, ha, _⟩ := hr 0 u (by simp); cases ha
    | some a =>
      simp only [Builtin.firstCells]
      rw [← hcl]
      have := loadCells_sound (P := P) (vs := news.take (c * sz)) hw (a := a) (fun j v hv => by
        have hlt := (List.getElem?_eq_some_iff.1 hv).1
        rw [List.getElem?_take_of_lt (by omega)] at hv
        obtain ⟨a', ha, h⟩ := hr j v hv; cases ha; exact h)
      rw [this, hcl]
  · rename_i s
    obtain ⟨hs, hK⟩ := h
    subst hs
    refine ⟨_, _, ⟨by simp, fun w hw => ⟨by simp [Builtin.lenOf], fun c hc => ?_⟩⟩, hK⟩
    simp only [Builtin.firstCells, Sem.run_pure]
    congr 1
    apply Array.ext'
    rw [Lib.extract_eq]
    simp

theorem SrcRun.all {P : Program} {R : Rd} {sz : Nat} {x : Value} {m : Nat} {news : List Value} (h : SrcRun P R sz x m news) {w : World} (hw : RSat R w) : (Builtin.lenOf x).run P w = .ok m w ∧ (Builtin.firstCells sz m x).run P w = .ok news.toArray w := by
  obtain ⟨h1, h2⟩ := h.2 w hw
  refine ⟨h1, ?_⟩
  have := h2 m (Nat.le_refl _)
  rwa [← h.1, List.take_length] at this

theorem setRange_tail : ∀ (news rest xs : List Value), news.length ≤ rest.length → setRange (xs ++ rest) xs.length news = xs ++ news ++ rest.drop news.length
  | [], rest, xs, _ => by simp [setRange]
  | v :: news, [], xs, h => by simp at h
  | v :: news, r :: rest, xs, h => by
    simp only [setRange]
    rw [List.set_append_right _ _ (Nat.le_refl _)]
    simp only [Nat.sub_self, List.set_cons_zero]
    have := setRange_tail news rest (xs ++ [v]) (by simpa using h)
    simp only [List.length_append, List.length_singleton, List.append_assoc, List.singleton_append] at this
    rw [this]
    simp

theorem run_append_gen {P : Program} {R : Rd} {T U ty e : TypeId} {ei : TI} (hT : P.underlying T = some (.slice e)) (hU : (∃ e', P.underlying U = some (.slice e')) ∨ P.underlying U = some .string) (he : TIok P e ei)
    (hz : (cls ei.zero).length = ei.size) {A : Option Addr} {n cap : Nat} {xs : List Value} {x : Value} {m : Nat} {news : List Value} (hx : SrcRun P R ei.size x m news) (h1 : ∀ u ∈ news, u.oneCell' = true)
    (hb : (n + m) * ei.bytes ≤ 140737488355328) (hml : n + m ≤ maxLen) {w : World} (hr : RSat R w) (hw : (HA.row A n cap e ei.size xs (0, 0)).holds w) :
    ∃ A' cap' w', (Builtin.append_ #[T, U] ty #[.slice A n cap, x]).run P w = .ok (.slice A' (n + m) cap') w' ∧ grow (n + m) A' ∧ Tr w [.row A n cap e ei.size xs (0, 0)] w' [.row A' (n + m) cap' e ei.size (xs ++ news) (0, 0)] := by
  have hnl := hx.1
  obtain ⟨s1, s2⟩ := hx.all hr
  obtain ⟨i, hi, i1, i2, i3⟩ := he.info
  obtain ⟨a1, a2, a3, a4, a5⟩ := hw
  have hm : maxLen = 9223372036854775807 := by simp [maxLen]
  by_cases hroom : n + m ≤ cap
  · cases A with
    | none =>
      simp only at a5
      subst a5
      obtain rfl : n = 0 := by omega
      obtain rfl : m = 0 := by omega
      have hx0 : xs = [] := List.eq_nil_of_length_eq_zero (by simpa using a1)
      have hn0 : news = [] := List.eq_nil_of_length_eq_zero (by simpa using hnl)
      subst hx0 hn0
      refine ⟨.none, 0, w, ?_, .inl rfl, Tr.refl ⟨fun y hy => ?_, by simp [idsOf, HA.ids, rowIds]⟩⟩
      · rcases hU with ⟨e', hU⟩ | hU <;> simp [Builtin.append_, run_underlying hT, run_underlying hU, sizeOf, typeInfo, hi, s1, i1, s2]
      · rw [List.mem_singleton.1 hy]; exact ⟨by simp, by omega, a3, by simp, rfl⟩
    | some a =>
      obtain ⟨b1, b2, rest, hh, hl, _⟩ := a5
      obtain ⟨g, o, s⟩ := a
      simp only at b1 b2 hh; subst b1; subst b2
      have hlen : news.length ≤ rest.length := by
        have h6 : (n + m) * ei.size ≤ cap * ei.size := Nat.mul_le_mul_right _ hroom
        rw [Nat.add_mul] at h6
        rw [List.length_append] at hl
        omega
      have hst := run_storeCells (P := P) g (n * ei.size) e (0, 0) news 0 (xs ++ rest) w hh (by rw [List.length_append]; omega) h1 (.inl rfl)
      rw [Nat.add_zero, ← a1, setRange_tail _ _ _ hlen] at hst
      have hadd : (⟨g, 0, .none⟩ : Addr).add xs.length = ⟨g, xs.length, .none⟩ := by
        rw [addA_eq]; cases xs.length <;> simp [addA]
      refine ⟨some ⟨g, 0, .none⟩, cap, _, ?_, .inr ⟨g, rfl⟩, Tr.setBlk_ (g := g) (ob := .cells (xs ++ news ++ rest.drop news.length).toArray e (0, 0)) rfl rfl ?_⟩
      · rcases hU with ⟨e', hU⟩ | hU <;> simp [Builtin.append_, run_underlying hT, run_underlying hU, sizeOf, typeInfo, hi, s1, i1, s2, hroom, ← a1, hadd, hst]
      · refine ⟨?_, hroom, a3, fun y hy => ?_, rfl, rfl, rest.drop news.length, setBlk_get _ _ _ (heap_lt hh), ?_, .inl rfl⟩
        · rw [List.length_append, a1, hnl, Nat.add_mul]
        · rcases List.mem_append.1 hy with hy | hy
          · exact a4 y hy
          · exact h1 y hy
        · simp only [List.length_append, List.length_drop] at hl ⊢; omega
  · have hfit := growslice_fits (bytes := ei.bytes) (show cap < n + m by omega) hb
    have hold : (Builtin.firstCells ei.size n (.slice A n cap)).run P w.drew = .ok xs.toArray w.drew := by
      cases A with
      | none =>
        simp only at a5
        subst a5
        obtain rfl : n = 0 := by omega
        have hx0 : xs = [] := List.eq_nil_of_length_eq_zero (by simpa using a1)
        subst hx0
        simp [Builtin.firstCells]
      | some a =>
        obtain ⟨b1, b2, rest, hh, hl, _⟩ := a5
        obtain ⟨g, o, s⟩ := a
        simp only at b1 b2 hh; subst b1; subst b2
        simp only [Builtin.firstCells]
        rw [← a1]
        refine loadCells_sound (R := fun a v => w.cell? a = some v) (w := w.drew) (fun a v h => h) (fun j v hv => ?_)
        have hadd : (⟨g, 0, .none⟩ : Addr).add j = ⟨g, j, .none⟩ := by
          rw [addA_eq]; cases j <;> simp [addA]
        rw [hadd]
        show w.cell? _ = some v
        rw [cell_of_heap (a := ⟨g, j, .none⟩) hh rfl]
        have hlt := (List.getElem?_eq_some_iff.1 hv).1
        simp only [List.getElem?_toArray]
        rw [List.getElem?_append_left hlt]; exact hv
    have hnew := (hx.all hr.drew).2
    have hge := grownCap_ge w (n + m) cap e
    have hcm := grownCap_le_maxLen w (n + m) cap e hml
    have hzl : (Builtin.zeroCells ei.zero.cells (grownCap w (n + m) cap e - (n + m))).toList.length = (grownCap w (n + m) cap e - (n + m)) * ei.size := by
      rw [Array.length_toList, size_zeroCells, ← hz, ← cls_eq, Array.length_toList]
    refine ⟨some ⟨w.heap.size, 0, .none⟩, grownCap w (n + m) cap e, w.drew.alloc (.cells (xs ++ news ++ (Builtin.zeroCells ei.zero.cells (grownCap w (n + m) cap e - (n + m))).toList).toArray e), ?_, .inr ⟨_, rfl⟩, ?_⟩
    · have hq : (Question.appendCap (n + m) cap e).forced = false := rfl
      have hn1 : ¬ (n + m ≤ cap) := hroom
      have hfit' : ¬ (281474976710656 < Builtin.nextslicecap (n + m) cap * ei.bytes) := by omega
      have hbig : ¬ ((9223372036854775807 : Int) < ((n : Int) + (m : Int))) := by omega
      have hfin : w.drew.alloc (.cells (xs.toArray ++ (news.toArray ++ Builtin.zeroCells ei.zero.cells ((Question.appendCap (n + m) cap e).cut (w.tape w.drawn (Question.appendCap (n + m) cap e)) - (n + m)))) e) =
          w.drew.alloc (.cells (xs ++ (news ++ (Builtin.zeroCells ei.zero.cells ((Question.appendCap (n + m) cap e).cut (w.tape w.drawn (Question.appendCap (n + m) cap e)) - (n + m))).toList)).toArray e) := by
        congr 2
        apply Array.ext'
        simp
      rcases hU with ⟨e', hU⟩ | hU
      · simp [Builtin.append_, run_underlying hT, run_underlying hU, sizeOf, typeInfo, hi, s1, i1, i2, i3, hn1, zeroValue, hq, hold, hnew, hfit', hbig, newRow_eq, grownCap]
        exact hfin
      · simp [Builtin.append_, run_underlying hT, run_underlying hU, sizeOf, typeInfo, hi, s1, i1, i2, i3, hn1, zeroValue, hq, hold, hnew, hfit', hbig, newRow_eq, grownCap]
        exact hfin
    · have hid : ∀ g ∈ idsOf [HA.row A n cap e ei.size xs (0, 0)], g < w.heap.size := by
        intro g hg
        obtain ⟨y, hy, hgy⟩ := mem_idsOf.1 hg
        rw [List.mem_singleton.1 hy] at hgy
        exact HA.holds_lt (x := .row A n cap e ei.size xs (0, 0)) (w := w) ⟨a1, a2, a3, a4, a5⟩ g hgy
      refine ⟨rfl, rfl, rfl, by simp, fun k hk _ => Below.heap_alloc w.drew _ k hk, ⟨fun y hy => ?_, by simp [idsOf, HA.ids, rowIds]⟩, fun g hg => ?_⟩
      · rw [List.mem_singleton.1 hy]
        refine holds_row_new w.drew (n + m) _ e _ (xs ++ news) _ ?_ hge hcm (fun y hy => ?_) ?_
        · rw [List.length_append, a1, hnl, Nat.add_mul]
        · rcases List.mem_append.1 hy with hy | hy
          · exact a4 y hy
          · exact h1 y hy
        · rw [List.length_append, List.length_append, a1, hnl, hzl, ← Nat.add_mul, ← Nat.add_mul]
          congr 1; omega
      · simp [idsOf, HA.ids, rowIds] at hg; subst hg; exact .inr (Nat.le_refl _)

end Go.Proofs.YtbgfnofjnbpdgaaDoor
