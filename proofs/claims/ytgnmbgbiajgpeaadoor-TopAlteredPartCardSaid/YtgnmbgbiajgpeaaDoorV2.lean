/-
  Operations on maps: their formulas are sound.
-/
import Derived.Test.YtgnmbgbiajgpeaaDoorV1
import Derived.MapKept
import Derived.Still
import Derived.Deep.LoopGhost
import Derived.WalkKit
import Derived.ProofKit
import Derived.OpenShut
import Derived.ShutString
import Derived.ChangeOld
import Derived.ChangeArms
import Derived.Below
import Derived.RangeFuncNested
import Derived.RangeFuncLeaves
import Derived.RangeFuncCalls
import Derived.TacticsIn
import Derived.Sort.LoopGhostIn
namespace Go.Proofs.YtgnmbgbiajgpeaaDoor
open Go Go.RowKit
set_option linter.unusedSimpArgs false

theorem mapTab_sound {P : Program} {tab : Tab} (htab : TabOk P tab) {T : TypeId} {K : TI → TI → Prop} (h : mapTab tab T K) :
    ∃ kt et ki ei, P.underlying T = some (.map kt et) ∧ TIok P kt ki ∧ TIok P et ei ∧ K ki ei := by
  unfold mapTab at h
  split at h <;> first | exact h.elim | skip
  rename_i ti hti
  split at h <;> first | exact h.elim | skip
  rename_i kt et hk
  split at h <;> first | exact h.elim | skip
  rename_i ki ei hki hei
  have ht := lk_ok htab hti
  obtain ⟨d, hd, hf⟩ := ht.desc
  rw [hk] at hf
  refine ⟨kt, et, ki, ei, ?_, lk_ok htab hki, lk_ok htab hei, h⟩
  rw [hd]
  cases d <;> simp [TK.of] at hf <;> simp_all

theorem keyKind_sound {P : Program} {kt : TypeId} {ki : TI} (hk : TIok P kt ki) {k : Value} (h : keyKind ki.kind k = true) : ∃ d, P.underlying kt = some d ∧ MapKept.IsKey d k ∧ ∀ k', likeKey k k' = true → MapKept.IsKey d k' := by
  unfold keyKind at h
  split at h
  · rename_i a b n hki
    have := kindNo_inj h
    subst this
    refine ⟨_, hk.int hki, rfl, fun k' hl => ?_⟩
    cases k' <;> simp [likeKey] at hl
    exact (kindNo_inj (by rw [hl]; exact Nat.beq_refl _)).symm
  · rename_i s hki
    refine ⟨_, hk.string hki, trivial, fun k' hl => ?_⟩
    cases k' <;> simp [likeKey] at hl
    trivial
  · cases h

theorem sameKey_iff {d : TypeDesc} {a b : Value} (ha : MapKept.IsKey d a) (hb : MapKept.IsKey d b) (hl : likeKey a b = true) : Instr.sameNow d a b = some (sameKey a b) := by
  cases d <;> cases a <;> cases b <;> simp [MapKept.IsKey, likeKey] at ha hb hl ⊢
  · subst ha hb
    simp only [Instr.sameNow, if_true, sameKey]
    first | done | (congr 1; exact Int.beq_decide _ _) | exact congrArg some (Int.beq_decide _ _)
  · rename_i x y
    simp only [Instr.sameNow, sameKey]
    congr 1
    by_cases h : x.data.toList = y.data.toList
    · rw [decide_eq_true h, MapKept.bytes_beq]
      obtain ⟨⟨x⟩⟩ := x
      obtain ⟨⟨y⟩⟩ := y
      simp only at h
      rw [h]
    · rw [decide_eq_false h]
      cases hb : (x == y)
      · rfl
      · exact absurd (by rw [(MapKept.bytes_beq x y).1 hb]) h

theorem findE_sound {d : TypeDesc} {k : Value} (hk : MapKept.IsKey d k) (hl : ∀ k', likeKey k k' = true → MapKept.IsKey d k') : ∀ (l : List MapEntry) (i : Nat), (∀ e ∈ l, likeKey k e.key = true) → Instr.findNow d k l i = some (findE k l i)
  | [], i, _ => rfl
  | e :: l, i, h => by
    have he := h e (by simp)
    unfold Instr.findNow findE
    rw [sameKey_iff hk (hl _ he) he]
    cases sameKey k e.key with
    | true => rfl
    | false => exact findE_sound hk hl l (i + 1) fun x hx => h x (by simp [hx])

theorem findE_shift {k : Value} : ∀ (l : List MapEntry) (i j : Nat) (v : Value), findE k l i = some (j, v) → ∃ m e, j = i + m ∧ l[m]? = some e ∧ e.val = v ∧ sameKey k e.key = true
  | [], i, j, v, h => by cases h
  | e :: l, i, j, v, h => by
    unfold findE at h
    split at h
    · rename_i hs
      simp only [Option.some.injEq, Prod.mk.injEq] at h
      exact ⟨0, e, by omega, rfl, h.2, hs⟩
    · obtain ⟨m, e', h1, h2, h3, h4⟩ := findE_shift l (i + 1) j v h
      exact ⟨m + 1, e', by omega, by simpa using h2, h3, h4⟩

theorem setE_modify (k x : Value) : ∀ (l : List MapEntry) (n : Nat), setE k x l n = l.modify n fun e => { e with key := k, val := x }
  | [], n => by cases n <;> rfl
  | e :: l, 0 => rfl
  | e :: l, n + 1 => by simp [setE, setE_modify k x l n]

theorem same_eq {k k' : Value} (hl : likeKey k k' = true) (hs : sameKey k k' = true) : k' = k := by
  cases k <;> cases k' <;> simp [likeKey, sameKey] at hl hs ⊢
  · exact ⟨(kindNo_inj (by rw [hl]; exact Nat.beq_refl _)).symm, hs.symm⟩
  · rename_i x y
    obtain ⟨⟨x⟩⟩ := x
    obtain ⟨⟨y⟩⟩ := y
    simp only at hs
    rw [hs]

theorem lookE_sound {P : Program} {tab : Tab} (htab : TabOk P tab) {h : Hp} {w : World} (own : Own h w) {T : TypeId} {m k : Value} {ok : Bool} {K : Value → Hp → Prop} (hE : lookE tab h T m k ok K) :
    ∃ v h' w', (Instr.lookup T m k ok).run P w = .ok v w' ∧ Tr w h w' h' ∧ K v h' := by
  obtain ⟨kt, et, ki, ei, hu, hki, hei, hE⟩ := mapTab_sound htab hE
  obtain ⟨hb, hE⟩ := chkB_of hE
  obtain ⟨d, hd, hk, hlike⟩ := keyKind_sound hki hb
  split at hE <;> first | exact hE.elim | skip
  · refine ⟨_, h, w, ?_, Tr.refl own, hE⟩
    unfold Instr.lookup
    simp only [Sem.run_bind, run_underlying hu, Result.andThen_ok, Sem.run_pure, MapKept.run_checkKey hd hk, MapKept.run_findKey hd (show Instr.findNow d k [] 0 = some .none from rfl), run_zero hei]
    cases ok <;> rfl
  · rename_i r
    obtain ⟨i, hE⟩ := hE
    obtain ⟨y, hy, hE⟩ := nthK_eq _ _ _ hE
    split at hE <;> first | exact hE.elim | skip
    rename_i r' es c
    obtain ⟨rfl, hl, h1⟩ := hE
    have hw := (own.all _ (List.mem_of_getElem? hy)).1
    have hf := findE_sound hk hlike es.toList 0 hl
    cases hr : findE k es.toList 0 with
    | none =>
      rw [hr] at hf
      refine ⟨okV ok ei.zero false, h, w, ?_, Tr.refl own, h1 _ _ (.inr ⟨hr, rfl, rfl⟩)⟩
      unfold Instr.lookup
      simp only [Sem.run_bind, run_underlying hu, Result.andThen_ok, Sem.run_pure, MapKept.run_getObj_map hw, MapKept.run_checkKey hd hk, MapKept.run_findKey hd hf, run_zero hei]
      cases ok <;> rfl
    | some p =>
      obtain ⟨j, v⟩ := p
      rw [hr] at hf
      refine ⟨okV ok v true, h, w, ?_, Tr.refl own, h1 _ _ (.inl ⟨j, hr, rfl⟩)⟩
      unfold Instr.lookup
      simp only [Sem.run_bind, run_underlying hu, Result.andThen_ok, Sem.run_pure, MapKept.run_getObj_map hw, MapKept.run_checkKey hd hk, MapKept.run_findKey hd hf]
      cases ok <;> rfl

theorem mupdE_sound {P : Program} {tab : Tab} (htab : TabOk P tab) {h : Hp} {w : World} (own : Own h w) {T : TypeId} {m k x : Value} {K : Value → Hp → Prop} (hE : mupdE tab h T m k x K) :
    ∃ h' w', (Instr.mapUpdate T m k x).run P w = .ok () w' ∧ Tr w h w' h' ∧ K undef h' := by
  obtain ⟨kt, et, ki, ei, hu, hki, hei, hE⟩ := mapTab_sound htab hE
  obtain ⟨hb, hE⟩ := chkB_of hE
  obtain ⟨d, hd, hk, hlike⟩ := keyKind_sound hki hb
  split at hE <;> first | exact hE.elim | skip
  rename_i r
  obtain ⟨i, hE⟩ := hE
  obtain ⟨y, hy, hE⟩ := nthK_eq _ _ _ hE
  split at hE <;> first | exact hE.elim | skip
  rename_i r' es c
  obtain ⟨rfl, hl, h1⟩ := hE
  have hw := (own.all _ (List.mem_of_getElem? hy)).1
  have hf := findE_sound hk hlike es.toList 0 hl
  cases hr : findE k es.toList 0 with
  | none =>
    have hK := h1 _ _ (.inr ⟨hr, rfl, rfl⟩)
    rw [setHK_eq] at hK
    rw [hr] at hf
    refine ⟨_, setBlk w r' (.map ⟨es.toList ++ [⟨k, x, c⟩]⟩ (c + 1)), ?_, Tr.at_ own hy (Tr.setObj_ hw (fun _ _ _ e => by cases e)), hK⟩
    unfold Instr.mapUpdate
    simp only [Sem.run_bind, run_underlying hu, Result.andThen_ok, Sem.run_pure, MapKept.run_getObj_map hw, MapKept.run_checkKey hd hk, MapKept.run_findKey hd hf, MapKept.run_setObj_map _ hw]
    have e : es.push ⟨k, x, c⟩ = ⟨es.toList ++ [⟨k, x, c⟩]⟩ := by apply Array.ext'; simp
    rw [e]; rfl
  | some p =>
    obtain ⟨j, v⟩ := p
    have hK := h1 _ _ (.inl ⟨j, v, hr, rfl, rfl⟩)
    rw [setHK_eq] at hK
    obtain ⟨m, e, hj, he, hv, hs⟩ := findE_shift _ _ _ _ hr
    rw [Nat.zero_add] at hj
    subst hj
    have hkey : e.key = k := same_eq (hl e (List.mem_of_getElem? he)) hs
    rw [hr] at hf
    refine ⟨_, setBlk w r' (.map ⟨setE k x es.toList j⟩ c), ?_, Tr.at_ own hy (Tr.setObj_ hw (fun _ _ _ e => by cases e)), hK⟩
    unfold Instr.mapUpdate
    have hg : ((es[j]?).map (·.key)).getD k = k := by
      rw [← Array.getElem?_toList, he]; exact hkey
    simp only [Sem.run_bind, run_underlying hu, Result.andThen_ok, Sem.run_pure, MapKept.run_getObj_map hw, MapKept.run_checkKey hd hk, MapKept.run_findKey hd hf, hg, MapKept.run_keyThatStays hk, MapKept.run_setObj_map _ hw]
    have e : (es.modify j fun e => { e with key := k, val := x }) = ⟨setE k x es.toList j⟩ := by apply Array.ext'; rw [setE_modify]; simp
    rw [e]; rfl

theorem rangeE_sound {P : Program} {tab : Tab} (htab : TabOk P tab) {h : Hp} {w : World} (own : Own h w) {T : TypeId} {m : Value} {K : Value → Hp → Prop} (hE : rangeE tab h T m K) :
    ∃ v h' w', (Instr.range T m).run P w = .ok v w' ∧ Tr w h w' h' ∧ K v h' := by
  unfold rangeE at hE
  split at hE <;> first | exact hE.elim | skip
  rename_i ti hti
  have ht := lk_ok htab hti
  have hmap : ∀ kt et, ti.kind = .map kt et → P.underlying T = some (.map kt et) := by
    intro kt et hk
    obtain ⟨d, hd, hf⟩ := ht.desc
    rw [hk] at hf
    rw [hd]
    cases d <;> simp [TK.of] at hf <;> simp_all
  split at hE <;> first | exact hE.elim | skip
  · rename_i kt et hk
    have hK := hE w.heap.size
    rw [snocK_eq] at hK
    refine ⟨_, _, w.alloc (.mapIter .none 0 #[] 0), ?_, Tr.new own (Tr.newObj _ (fun _ _ _ e => by cases e)), hK⟩
    unfold Instr.range
    simp only [Sem.run_bind, run_underlying (hmap _ _ hk), Result.andThen_ok, Sem.run_pure]
    rfl
  · rename_i kt et r hk
    obtain ⟨i, hE⟩ := hE
    obtain ⟨y, hy, hE⟩ := nthK_eq _ _ _ hE
    split at hE <;> first | exact hE.elim | skip
    rename_i r' es c
    obtain ⟨rfl, hE⟩ := hE
    have hw := (own.all _ (List.mem_of_getElem? hy)).1
    have hK := hE w.heap.size
    rw [snocK_eq] at hK
    refine ⟨_, _, w.alloc (.mapIter (some r') c #[] c), ?_, Tr.new own (Tr.newObj _ (fun _ _ _ e => by cases e)), hK⟩
    unfold Instr.range
    simp only [Sem.run_bind, run_underlying (hmap _ _ hk), Result.andThen_ok, Sem.run_pure, MapKept.run_getObj_map hw]
    rfl

theorem choose_next {P : Program} (n : Nat) (hn : 0 < n) (w : World) : ∃ (j : Nat) (w1 : World), j < n ∧ (w1 = w ∨ w1 = w.drew) ∧ (choose (.mapNext n)).run P w = .ok j w1 := by
  rw [run_choose_drew]
  cases hq : (Question.mapNext n).forced
  · exact ⟨_, w.drew, Nat.mod_lt _ hn, .inr rfl, rfl⟩
  · exact ⟨0, w, hn, .inl rfl, rfl⟩

theorem nextE_sound {P : Program} {h : Hp} {w : World} (own : Own h w) {it : Value} {ty : TypeId} {K : Value → Hp → Prop} (hE : nextE h it K) :
    ∃ v h' w', (Instr.next it false ty).run P w = .ok v w' ∧ Tr w h w' h' ∧ K v h' := by
  unfold nextE at hE
  split at hE <;> first | exact hE.elim | skip
  rename_i g sp
  obtain ⟨i, hE⟩ := hE
  obtain ⟨y, hy, hE⟩ := nthK_eq _ _ _ hE
  split at hE <;> first | exact hE.elim | skip
  · rename_i g' a b c
    obtain ⟨rfl, hK⟩ := hE
    have hw := own.all _ (List.mem_of_getElem? hy)
    refine ⟨_, h, w, ?_, Tr.refl own, hK⟩
    unfold Instr.next
    simp only [Sem.run_bind, run_getObj hw.1 hw.2, Result.andThen_ok, Sem.run_pure]
    try rfl
  · rename_i g' m since seen last
    obtain ⟨rfl, j, hE⟩ := hE
    obtain ⟨z, hz, hE⟩ := nthK_eq _ _ _ hE
    split at hE <;> first | exact hE.elim | skip
    rename_i m' es c
    obtain ⟨rfl, hborn, h1, h2⟩ := hE
    have hw := own.all _ (List.mem_of_getElem? hy)
    have hwm := own.all _ (List.mem_of_getElem? hz)
    have hgone : (!seen.isEmpty && !es.isEmpty && es.all fun x => decide (x.born ≥ last)) = false := by
      cases hem : es.isEmpty
      · have : ∃ e, e ∈ es.toList := by
          cases hl : es.toList with
          | nil => simp [← Array.isEmpty_toList, hl] at hem
          | cons e l => exact ⟨e, by simp⟩
        obtain ⟨e, he⟩ := this
        have hb := (hborn e he).2
        have : (es.all fun x => decide (x.born ≥ last)) = false := by
          rw [Array.all_eq_false]
          obtain ⟨n, hn⟩ := List.getElem?_of_mem he
          obtain ⟨hlt, heq⟩ := List.getElem?_eq_some_iff.1 hn
          refine ⟨n, by simpa using hlt, ?_⟩
          simp only [Array.getElem_toList] at heq
          rw [heq]
          simp; omega
        rw [this]; simp
      · simp
    have hnew : (es.filter fun e => !seen.contains e.born).filter (fun e => decide (e.born ≥ since)) = #[] := by
      apply Array.eq_empty_of_size_eq_zero
      rw [Array.size_eq_zero_iff, Array.filter_eq_empty_iff]
      intro e he
      have := (hborn e (by simpa using (Array.mem_filter.1 he).1)).1
      simp; omega
    have hold : (es.filter fun e => !seen.contains e.born).filter (fun e => decide (e.born < since)) = es.filter fun e => !seen.contains e.born := by
      rw [Array.filter_eq_self]
      intro e he
      have := (hborn e (by simpa using (Array.mem_filter.1 he).1)).1
      simp; omega
    generalize hL : (es.filter fun e => !seen.contains e.born) = left at hnew hold
    have hcs1 : left.isEmpty = true → (#[none] ++ Array.map some (left ++ #[]) : Array (Option MapEntry)) = #[none] := fun he => by
      have : left = #[] := by simpa using he
      rw [this]; simp
    have hcs2 : (#[] ++ Array.map some (left ++ #[]) : Array (Option MapEntry)) = left.map some := by simp
    have hpos : 0 < (if left.isEmpty then #[none] else left.map some : Array (Option MapEntry)).size := by
      by_cases he : left.isEmpty
      · rw [if_pos he]; simp
      · rw [if_neg he, Array.size_map]
        rcases Nat.eq_zero_or_pos left.size with h0 | h0
        · exact absurd (by simpa using Array.eq_empty_of_size_eq_zero h0) he
        · exact h0
    obtain ⟨n, w1, hn, hw1, hch⟩ := choose_next (P := P) _ hpos w
    have htr : Tr w h w1 h := by
      rcases hw1 with rfl | rfl
      · exact Tr.refl own
      · exact Tr.drew own
    by_cases he : left.isEmpty
    · have hK := h2 fun e hm => by
        have : left = #[] := by simpa using he
        rw [this] at hL
        have := Array.filter_eq_empty_iff.1 hL e (by simpa using hm)
        simpa using this
      rw [if_pos he] at hn hch
      have hn0 : n = 0 := by simpa using hn
      subst hn0
      refine ⟨_, h, w1, ?_, htr, hK⟩
      unfold Instr.next
      simp only [Sem.run_bind, run_getObj hw.1 hw.2, run_getObj hwm.1 hwm.2, Result.andThen_ok, hgone, Bool.false_eq_true, if_false, Sem.run_pure, hL, hold, hnew, if_pos he, hcs1 he, hch]
      rfl
    · rw [if_neg he] at hn hch
      have hln : n < left.size := by simpa using hn
      have hmem : left[n] ∈ left := Array.getElem_mem hln
      have hm2 : left[n] ∈ es.toList ∧ left[n].born ∉ seen.toList := by
        have hm := hmem
        generalize left[n] = q at hm ⊢
        rw [← hL] at hm
        obtain ⟨a, b⟩ := Array.mem_filter.1 hm
        exact ⟨by simpa using a, by simpa using b⟩
      have hK := h1 _ hm2.1 hm2.2
      rw [setHK_eq] at hK
      refine ⟨_, _, setBlk w1 g' (.mapIter (some m') since ⟨seen.toList ++ [left[n].born]⟩ c), ?_, htr.trans (Tr.at_ htr.own hy (Tr.setObj_ (htr.own.all _ (List.mem_of_getElem? hy)).1 (fun _ _ _ e => by cases e))), hK⟩
      unfold Instr.next
      have hget : (left.map some)[n]? = some (some left[n]) := by simp [hln]
      have hw2 := htr.own.all _ (List.mem_of_getElem? hy)
      simp only [Sem.run_bind, run_getObj hw.1 hw.2, run_getObj hwm.1 hwm.2, Result.andThen_ok, hgone, Bool.false_eq_true, if_false, Sem.run_pure, hL, hold, hnew, if_neg he, hcs2, hch, hget, run_setObj hw2.1 hw2.2]
      have e : seen.push left[n].born = ⟨seen.toList ++ [left[n].born]⟩ := by apply Array.ext'; simp
      rw [e]

theorem entryE_sound {P : Program} {h : Hp} {w : World} (own : Own h w) {it : Value} {K : Value → Hp → Prop} (hE : entryE h it K) :
    ∃ v h' w', (Instr.entry it).run P w = .ok v w' ∧ Tr w h w' h' ∧ K v h' := by
  unfold entryE at hE
  split at hE <;> first | exact hE.elim | skip
  rename_i g sp
  obtain ⟨i, hE⟩ := hE
  obtain ⟨y, hy, hE⟩ := nthK_eq _ _ _ hE
  split at hE <;> first | exact hE.elim | skip
  rename_i g' m since seen last
  obtain ⟨rfl, stamp, hst, j, hE⟩ := hE
  obtain ⟨z, hz, hE⟩ := nthK_eq _ _ _ hE
  split at hE <;> first | exact hE.elim | skip
  rename_i m' es c
  obtain ⟨rfl, rfl, e, he, hK⟩ := hE
  have hw := own.all _ (List.mem_of_getElem? hy)
  have hwm := own.all _ (List.mem_of_getElem? hz)
  refine ⟨_, h, w, ?_, Tr.refl own, hK⟩
  have hb : seen.back? = some stamp := by rw [← hst]; simp [Array.getLast?_toList]
  have hf : es.find? (fun x => x.born == stamp) = some e := by rw [← he]; simp [Array.find?_toList]
  unfold Instr.entry
  simp only [Sem.run_bind, run_getObj hw.1 hw.2, run_getObj hwm.1 hwm.2, Result.andThen_ok, Sem.run_pure, hb, hf, bne_self_eq_false, Bool.false_eq_true, if_false]

end Go.Proofs.YtgnmbgbiajgpeaaDoor

namespace Go.Proofs.YtgnmbgbiajgpeaaDoor
open Go Go.RowKit

theorem src_kind {P : Program} {tab : Tab} (htab : TabOk P tab) {U : TypeId} {ui : TI} (h : lk tab U = some ui) (hs : isSrc ui.kind = true) : (∃ e', P.underlying U = some (.slice e')) ∨ P.underlying U = some .string := by
  cases hk : ui.kind <;> rw [hk] at hs <;> simp [isSrc] at hs
  · exact .inr ((lk_ok htab h).string hk)
  · exact .inl ⟨_, (lk_ok htab h).slice hk⟩

theorem append_any {P : Program} {R : Rd} {T U ty e : TypeId} {ei : TI} (hT : P.underlying T = some (.slice e)) (hU : (∃ e', P.underlying U = some (.slice e')) ∨ P.underlying U = some .string) (he : TIok P e ei)
    {a : Addr} {x : Value} {m : Nat} {news : List Value} (hx : SrcRun P R ei.size x m news) (hm : 0 < m) (hb : (0 + m) * ei.bytes ≤ 140737488355328) (hml : 0 + m ≤ maxLen) {w : World} (hr : RSat R w) :
    (Builtin.append_ #[T, U] ty #[.slice (some a) 0 0, x]).run P w = (Builtin.append_ #[T, U] ty #[.slice .none 0 0, x]).run P w := by
  obtain ⟨s1, s2⟩ := hx.all hr
  obtain ⟨i, hi, i1, i2, i3⟩ := he.info
  have hn1 : ¬ m = 0 := by omega
  have hl : ∀ w : World, (Builtin.firstCells ei.size 0 (.slice (some a) 0 0)).run P w = (Builtin.firstCells ei.size 0 (.slice .none 0 0)).run P w := fun w => by
    simp [Builtin.firstCells, loadCells, loadCellsFrom]
  rw [Nat.zero_add] at hb hml
  have hM : maxLen = 9223372036854775807 := by simp [maxLen]
  have hfit := growslice_fits (bytes := ei.bytes) hm hb
  have hfit' : ¬ (281474976710656 < Builtin.nextslicecap m 0 * ei.bytes) := by omega
  have hbig : ¬ ((9223372036854775807 : Int) < (m : Int)) := by omega
  rcases hU with ⟨e', hU⟩ | hU
  · simp [Builtin.append_, run_underlying hT, run_underlying hU, sizeOf, typeInfo, hi, s1, i1, i2, hn1, hl, hfit', hbig]
  · simp [Builtin.append_, run_underlying hT, run_underlying hU, sizeOf, typeInfo, hi, s1, i1, i2, hn1, hl, hfit', hbig]

theorem append_none {P : Program} {R : Rd} {T U ty e : TypeId} {ei : TI} (hT : P.underlying T = some (.slice e)) (hU : (∃ e', P.underlying U = some (.slice e')) ∨ P.underlying U = some .string) (he : TIok P e ei)
    {A : Option Addr} {x : Value} {news : List Value} (hx : SrcRun P R ei.size x 0 news) {w : World} (hr : RSat R w) :
    (Builtin.append_ #[T, U] ty #[.slice A 0 0, x]).run P w = .ok (.slice A 0 0) w := by
  have hnl := hx.1
  have hn0 : news = [] := List.eq_nil_of_length_eq_zero (by simpa using hnl)
  subst hn0
  obtain ⟨s1, s2⟩ := hx.all hr
  obtain ⟨i, hi, i1, i2, i3⟩ := he.info
  rcases hU with ⟨e', hU⟩ | hU <;> cases A <;> simp [Builtin.append_, run_underlying hT, run_underlying hU, sizeOf, typeInfo, hi, s1, i1, s2, storeCells]

theorem append_zeros {P : Program} {T U ty e : TypeId} {ei : TI} {k : IntKind} (hT : P.underlying T = some (.slice e)) (hU : P.underlying U = some (.int k)) (he : TIok P e ei)
    (hz : (cls ei.zero).length = ei.size) (h0 : 0 < ei.size) (h1 : ∀ u ∈ cls ei.zero, u.oneCell' = true) {k' : IntKind} {c : Nat} (hc : 0 < c) (hb : c * ei.bytes ≤ 140737488355328) (hml : c ≤ maxLen) {w : World} :
    ∃ A' cap' w', (Builtin.append_ #[T, U] ty #[.slice .none 0 0, .int k' c]).run P w = .ok (.slice A' c cap') w' ∧ grow c A' ∧ Tr w [] w' [.row A' c cap' e ei.size (repl (cls ei.zero) c) (0, 0)] := by
  obtain ⟨i, hi, i1, i2, i3⟩ := he.info
  have hm : maxLen = 9223372036854775807 := by simp [maxLen]
  have hzs : ei.zero.cells.size = ei.size := by rw [← hz, ← cls_eq, Array.length_toList]
  have hwr : IntKind.i64.wrap (c : Int) = (c : Int) := by rw [IntKind.wrap_i64]; omega
  have hneg : ¬ ((c : Int) < 0) := by omega
  have hc0 : ¬ (c = 0) := by omega
  have hcz : ¬ (c * ei.size = 0) := by have := Nat.mul_pos hc h0; omega
  have hbi : ¬ (281474976710656 < (c : Int) * (ei.bytes : Int)) := by rw [← Int.natCast_mul]; omega
  have hfit := growslice_fits (need := c) (old := 0) (bytes := ei.bytes) (show 0 < c by omega) hb
  have hfit' : ¬ (281474976710656 < Builtin.nextslicecap c 0 * ei.bytes) := by omega
  have hbig : ¬ ((9223372036854775807 : Int) < (c : Int)) := by omega
  have hq : (Question.appendCap c 0 e).forced = false := rfl
  have hge := grownCap_ge w c 0 e
  have hcm := grownCap_le_maxLen w c 0 e hml
  have hrep : ∀ n, Builtin.zeroCells ei.zero.cells n = (repl (cls ei.zero) n).toArray := fun n => by
    have := cells_repl ei.zero.cells (by omega) n
    rw [cls_eq] at this
    exact this
  refine ⟨some ⟨w.heap.size, 0, .none⟩, grownCap w c 0 e, w.drew.alloc (.cells (repl (cls ei.zero) c ++ repl (cls ei.zero) (grownCap w c 0 e - c)).toArray e), ?_, .inr ⟨_, rfl⟩, ?_⟩
  · simp [Builtin.append_, run_underlying hT, run_underlying hU, sizeOf, typeInfo, hi, i1, i2, i3, asInt, asIntOf, hwr, hneg, hc0, hcz, hbi, zeroValue, hq, hfit', hbig, newRow_eq, grownCap, hrep, Builtin.firstCells]
  · refine ⟨rfl, rfl, rfl, by simp, fun k hk _ => Below.heap_alloc w.drew _ k hk, ⟨fun y hy => ?_, by simp [idsOf, HA.ids, rowIds]⟩, fun g hg => ?_⟩
    · rw [List.mem_singleton.1 hy]
      refine holds_row_new w.drew c _ e _ (repl (cls ei.zero) c) _ ?_ hge hcm (fun y hy => ?_) ?_
      · rw [length_repl, hz]
      · exact h1 _ (mem_repl _ _ _ hy)
      · rw [List.length_append, length_repl, length_repl, hz, ← Nat.add_mul]
        congr 1; omega
    · simp [idsOf, HA.ids, rowIds] at hg; subst hg; exact .inr (Nat.le_refl _)

theorem appE_sound {P : Program} {tab : Tab} (htab : TabOk P tab) {R : Rd} {h : Hp} {w : World} (own : Own h w) (hr : RSat R w) {T U ty : TypeId} {s x : Value} {K : Value → Hp → Prop} (hE : appE tab R h T U s x K) :
    ∃ v h' w', (Builtin.append_ #[T, U] ty #[s, x]).run P w = .ok v w' ∧ Tr w h w' h' ∧ K v h' := by
  unfold appE at hE
  split at hE <;> first | exact hE.elim | skip
  rename_i ti ui hti hui
  split at hE <;> first | exact hE.elim | skip
  rename_i e hk
  split at hE <;> first | exact hE.elim | skip
  rename_i ei he
  have hT := (lk_ok htab hti).slice hk
  split at hE
  · rename_i hint
    unfold zerE at hE
    split at hE <;> first | exact hE.elim | skip
    rename_i A n cap k' k
    obtain ⟨hbb, rfl, rfl, rfl, c, rfl, hc, hb, hml, hK⟩ := chkB_of hE
    simp only [Bool.and_eq_true] at hbb
    obtain ⟨ik, hik⟩ : ∃ ik, ui.kind = .int ik := by
      cases hkk : ui.kind <;> rw [hkk] at hint <;> first | (exact ⟨_, rfl⟩) | (cases hint)
    obtain ⟨A', cap', w', hrun, hg, ht⟩ := append_zeros (ty := ty) (k' := k') (w := w) hT ((lk_ok htab hui).int hik) (lk_ok htab he) (Nat.eq_of_beq_eq_true hbb.1.2) (Nat.le_of_ble_eq_true hbb.1.1) (allOne_iff hbb.2) hc hb hml
    have hK := hK A' cap' hg
    rw [snocK_eq] at hK
    exact ⟨_, _, w', hrun, Tr.new own ht, hK⟩
  split at hE <;> first | exact hE.elim | skip
  rename_i A n cap
  obtain ⟨hbb, hE⟩ := chkB_of hE
  simp only [Bool.and_eq_true] at hbb
  have hs := hbb.1.1
  have hz := Nat.eq_of_beq_eq_true hbb.2
  obtain ⟨m, news, hsr, h1, hb, hml, hE⟩ := srcE_sound (P := P) hE
  have h1 := allOne_iff h1
  have hU := src_kind htab hui hs
  have hnil : ∀ {A : Option Addr}, (A = .none ∨ 0 < m) → (0 + m) * ei.bytes ≤ 140737488355328 → 0 + m ≤ maxLen → (∀ (A' : Option Addr) (cap' : Nat), grow (0 + m) A' → snocK (.row A' (0 + m) cap' e ei.size ([] ++ news) (0, 0)) (fun h' => K (.slice A' (0 + m) cap') h') h) →
      ∃ v h' w', (Builtin.append_ #[T, U] ty #[.slice A 0 0, x]).run P w = .ok v w' ∧ Tr w h w' h' ∧ K v h' := by
    intro A hA hb hml hK
    have hw0 : (HA.row .none 0 0 e ei.size [] (0, 0)).holds w := ⟨by simp, by omega, by simp, by simp, rfl⟩
    obtain ⟨A', cap', w', hrun, hg, ht⟩ := run_append_gen (ty := ty) hT hU (lk_ok htab he) hz hsr h1 hb hml (hr.rh own) hw0
    have hK := hK A' cap' hg
    rw [snocK_eq] at hK
    have hrun' : (Builtin.append_ #[T, U] ty #[.slice A 0 0, x]).run P w = .ok (.slice A' (0 + m) cap') w' := by
      rcases hA with rfl | hm
      · exact hrun
      · cases A with
        | none => exact hrun
        | some a => rw [append_any hT hU (lk_ok htab he) hsr hm hb hml (hr.rh own)]; exact hrun
    refine ⟨_, _, w', hrun', Tr.new own ?_, hK⟩
    refine ⟨ht.os, ht.tape, ht.output, ht.size, fun k hk _ => ht.keep k hk (by simp [idsOf, HA.ids, rowIds]), ht.own, fun g hg => ?_⟩
    rcases ht.fresh g hg with h | h
    · simp [idsOf, HA.ids, rowIds] at h
    · exact .inr h
  rcases hE with ⟨rfl, rfl, rfl, hK⟩ | ⟨i, hE⟩
  · exact hnil (.inl rfl) hb hml hK
  · rcases nthX_eq _ _ _ _ hE with ⟨rfl, rfl, hK0, hK⟩ | ⟨y, hy, hE⟩
    · rcases Nat.eq_zero_or_pos m with rfl | hm
      · exact ⟨_, h, w, append_none hT hU (lk_ok htab he) hsr (hr.rh own), Tr.refl own, hK0 rfl⟩
      · exact hnil (.inr hm) hb hml (hK hm)
    split at hE <;> first | exact hE.elim | skip
    rename_i A1 n1 cap1 e1 sz1 xs fz
    obtain ⟨rfl, rfl, rfl, rfl, rfl, rfl, hK⟩ := hE
    have hw0 := own.all _ (List.mem_of_getElem? hy)
    obtain ⟨A', cap', w', hrun, hg, ht⟩ := run_append_gen (ty := ty) hT hU (lk_ok htab he) hz hsr h1 hb hml (hr.rh own) hw0
    have hK := hK A' cap' hg
    rw [setHK_eq] at hK
    exact ⟨_, _, w', hrun, Tr.at_ own hy ht, hK⟩

theorem copyE_sound {P : Program} {tab : Tab} (htab : TabOk P tab) {R : Rd} {h : Hp} {w : World} (own : Own h w) (hr : RSat R w) {T U ty : TypeId} {s x : Value} {K : Value → Hp → Prop} (hE : copyE tab R h T s x K) :
    ∃ v h' w', (Builtin.copy_ #[T, U] ty #[s, x]).run P w = .ok v w' ∧ Tr w h w' h' ∧ K v h' := by
  unfold copyE at hE
  split at hE <;> first | exact hE.elim | skip
  rename_i ti A n cap hti
  split at hE <;> first | exact hE.elim | skip
  rename_i e hk
  split at hE <;> first | exact hE.elim | skip
  rename_i ei he
  obtain ⟨m, news, hsr, h1, hE⟩ := srcE_sound (P := P) hE
  have hT := (lk_ok htab hti).slice hk
  obtain ⟨s1, s2⟩ := hsr.2 w (hr.rh own)
  have s3 := s2 (min m n) (Nat.min_le_left _ _)
  have hmin : Nat.min m n = min m n := rfl
  rcases hE _ rfl with ⟨h0, hK⟩ | ⟨ad, rfl, i, hE⟩
  · refine ⟨_, h, w, ?_, Tr.refl own, hK⟩
    rw [h0] at s3
    simp only [Nat.zero_mul, List.take_zero] at s3
    cases A <;> simp [Builtin.copy_, run_underlying hT, run_sizeOf (lk_ok htab he), s1, hmin, h0, s3, goInt, storeCells]
  · obtain ⟨y, hy, hE⟩ := nthK_eq _ _ _ hE
    have h1' : ∀ v ∈ news.take (min m n * ei.size), v.oneCell' = true := fun v hv => allOne_iff h1 v (List.mem_of_mem_take hv)
    obtain ⟨y', hK, hst⟩ := stE_sound (P := P) h1' hE
    rw [setHK_eq] at hK
    obtain ⟨w', hrun, ht⟩ := hst w (own.all y (List.mem_of_getElem? hy))
    refine ⟨_, _, w', ?_, Tr.at_ own hy ht, hK⟩
    simp [Builtin.copy_, run_underlying hT, run_sizeOf (lk_ok htab he), s1, hmin, s3, goInt, hrun]

theorem length_fill {ρ : List Value} {place : Nat → Option (Nat × Nat)} {K : List Value → Prop} : ∀ (parts : List (Nat × Operand)) (cs : List Value), fillQ place ρ K parts cs → fillQ place ρ (fun c => c.length = cs.length ∧ K c) parts cs
  | [], cs, h => ⟨rfl, h⟩
  | (i, x) :: r, cs, h => by
    unfold fillQ at h ⊢
    split at h <;> first | exact h.elim | skip
    rename_i off size hp
    rw [evK_eq] at h ⊢
    obtain ⟨a, c⟩ := chkB_of h
    rw [setRK_eq] at c
    have := length_fill r _ c.2
    rw [length_setRange] at this
    rw [a]
    show setRK _ _ _ _
    rw [setRK_eq]
    exact ⟨c.1, this⟩

theorem buildSlice_sound {P : Program} {tab : Tab} (htab : TabOk P tab) {h : Hp} {w : World} (own : Own h w) {T e : TypeId} {ti ei : TI} (hti : lk tab T = some ti) (hk : ti.kind = .slice e) (he : lk tab e = some ei) {len : Nat} {parts : List (Nat × Operand)} {ρ : List Value} {K : Value → Hp → Prop}
    (h0 : 0 < ei.size) (hz : (cls ei.zero).length = ei.size) (hl : len * ei.size ≤ 16777216)
    (hE : fillQ (fun i => some (i * ei.size, ei.size)) ρ (fun cs => allOne cs = true ∧ ∀ g : Nat, snocK (.row (some ⟨g, 0, .none⟩) len len e ei.size cs (0, 0)) (fun h' => K (.slice (some ⟨g, 0, .none⟩) len len) h') h) parts (repl (cls ei.zero) len)) :
    ∃ v h' w', (Instr.buildSlice T len (parts.map fun (x : Nat × Operand) => (x.1, ev ρ x.2)).toArray).run P w = .ok v w' ∧ Tr w h w' h' ∧ K v h' := by
  obtain ⟨cs, hf, hcl, h1, hK⟩ := fill_sound (place' := fun i => some (i * ei.size, ei.size)) (fun i x hx => hx) parts _ (length_fill parts _ hE)
  have h1 := allOne_iff h1
  rw [length_repl, hz] at hcl
  have hK := hK w.heap.size
  rw [snocK_eq] at hK
  have hT := (lk_ok htab hti).slice hk
  have hzs : ei.zero.cells.size = ei.size := by rw [← hz, ← cls_eq, Array.length_toList]
  have hrep : (Array.range (len * ei.size)).map (ei.zero.cells[· % ei.zero.cells.size]!) = (repl (cls ei.zero) len).toArray := by
    have := cells_repl ei.zero.cells (by omega) len
    rw [cls_eq] at this
    rw [← this, hzs]
  refine ⟨_, _, w.alloc (.cells cs.toArray e), ?_, Tr.new own (Tr.alloc w _ rfl ?_), hK⟩
  · unfold Instr.buildSlice
    by_cases hn : len * ei.size = 0
    · have hlen : len = 0 := by
        rcases Nat.mul_eq_zero.1 hn with h | h
        · exact h
        · omega
      subst hlen
      have hrep0 : (Array.range 0).map ((#[] : Array Value)[· % (#[] : Array Value).size]!) = (repl (cls ei.zero) 0).toArray := by simp [repl, Array.range_zero']
      simp only [Sem.run_bind, run_underlying hT, Result.andThen_ok, run_sizeOf (lk_ok htab he)]
      simp only [Nat.zero_mul] at hf ⊢
      rw [if_neg (by omega)]
      simp only [if_true, Sem.run_pure, Result.andThen_ok, Sem.run_bind]
      simp only [Array.range_zero', Array.map_empty, repl] at hf ⊢
      simp [hf, newRow_eq]
    · simp only [Sem.run_bind, run_underlying hT, Result.andThen_ok, run_sizeOf (lk_ok htab he)]
      rw [if_neg (by omega), if_neg hn]
      simp only [Sem.run_bind, Sem.run_pure, Result.andThen_ok, run_zero (lk_ok htab he)]
      rw [hrep]
      simp [hf, newRow_eq]
  · have := holds_row_new w len len e ei.size cs [] hcl (Nat.le_refl _) (by
      have h6 : len * 1 ≤ len * ei.size := Nat.mul_le_mul_left _ h0
      have hm : maxLen = 9223372036854775807 := by simp [maxLen]
      omega) h1 (by rw [List.append_nil]; exact hcl)
    simpa using this

theorem freeze_eq (w : World) (g n : Nat) (c : Array Value) (e : TypeId) (h : w.heap[g]? = some (.cells c e (0, 0))) : w.freeze ⟨g, n, .none⟩ 1 = setBlk w g (.cells c e (n, n + 1)) := by
  unfold World.freeze setBlk
  rw [if_neg (by omega)]
  congr 1
  apply Array.ext_getElem?
  intro i
  rw [Array.getElem?_modify, Array.getElem?_setIfInBounds]
  split
  · rename_i he; subst he
    obtain ⟨hlt, he⟩ := Array.getElem?_eq_some_iff.1 h
    simp [hlt, he]
  · rfl

theorem run_stringToBytes {P : Program} (e : TypeId) (s : ByteArray) (w : World) (hs : s.data.toList.length ≤ maxLen) : ∃ cap w', (Conv.stringToBytes e s).run P w = .ok (.slice (some ⟨w.heap.size, 0, .none⟩) s.data.toList.length cap) w' ∧
    Tr w [] w' [.row (some ⟨w.heap.size, 0, .none⟩) s.data.toList.length cap e 1 (s.data.toList.map fun b => .int .u8 b.toNat) (cap, cap + 1)] := by
  have hsz := Lib.size_eq s
  have hge := grownCap_ge w s.size 0 e
  have hcm := grownCap_le_maxLen w s.size 0 e (by omega)
  have hq : (Question.appendCap s.size 0 e).forced = false := rfl
  generalize hcap : grownCap w s.size 0 e = cap at hge hcm
  have hb : (w.drew.alloc (.cells (s.data.map (fun b : UInt8 => Value.int .u8 b.toNat) ++ Array.replicate (cap - s.size) (Value.int .u8 0)) e)).heap[w.heap.size]? = some (.cells (s.data.map (fun b : UInt8 => Value.int .u8 b.toNat) ++ Array.replicate (cap - s.size) (Value.int .u8 0)) e (0, 0)) := heap_alloc_new w.drew _
  have hcells : (s.data.map (fun b : UInt8 => Value.int .u8 b.toNat) ++ Array.replicate (cap - s.size) (Value.int .u8 0)) = ((s.data.toList.map fun b : UInt8 => Value.int .u8 b.toNat) ++ List.replicate (cap - s.size) (Value.int .u8 0)).toArray := by
    apply Array.ext'; simp
  have hl : (s.data.map (fun b : UInt8 => Value.int .u8 b.toNat) ++ Array.replicate (cap - s.size) (Value.int .u8 0)).size = cap := by
    simp; omega
  have hfr := freeze_eq _ w.heap.size cap _ e hb
  refine ⟨cap, setBlk (w.drew.alloc (.cells (s.data.map (fun b : UInt8 => Value.int .u8 b.toNat) ++ Array.replicate (cap - s.size) (Value.int .u8 0)) e)) w.heap.size (.cells (s.data.map (fun b : UInt8 => Value.int .u8 b.toNat) ++ Array.replicate (cap - s.size) (Value.int .u8 0)) e (cap, cap + 1)), ?_, ?_⟩
  · rw [← hfr]
    have hch : (choose (.appendCap s.size 0 e)).run P w = .ok cap w.drew := by
      rw [← hcap]
      simp [hq, grownCap]
    unfold Conv.stringToBytes
    simp only [Sem.run_bind, hch, Result.andThen_ok, newRow_eq]
    have hsh : (w.drew.alloc (.cells (s.data.map (fun b : UInt8 => Value.int .u8 b.toNat) ++ Array.replicate (cap - s.size) (Value.int .u8 0)) e)).shape? w.heap.size = some (e, cap) := by
      unfold World.shape?
      rw [hb]
      simp only [hl]
    have hd : w.drew.heap.size = w.heap.size := rfl
    rw [hd]
    simp only [markStringish, Sem.run_bind, run_shape, Result.andThen_ok, hsh, run_freeze, Sem.run_pure]
    rw [hsz]
  · refine ⟨rfl, rfl, rfl, by simp [setBlk], fun k hk _ => ?_, ⟨fun y hy => ?_, by simp [idsOf, HA.ids, rowIds]⟩, fun g hg => ?_⟩
    · rw [setBlk_other _ _ _ _ (by omega)]
      exact Below.heap_alloc w.drew _ k hk
    · rw [List.mem_singleton.1 hy]
      refine ⟨by simp, by omega, hcm, fun x hx => ?_, rfl, rfl, List.replicate (cap - s.size) (Value.int .u8 0), ?_, ?_, .inr (by simp)⟩
      · obtain ⟨b, _, rfl⟩ := List.mem_map.1 hx; rfl
      · rw [← hcells]
        exact setBlk_get _ _ _ (by simp)
      · simp; omega
    · simp [idsOf, HA.ids, rowIds] at hg; subst hg; exact .inr (Nat.le_refl _)

theorem run_storeVar {P : Program} {T : TypeId} {ti : TI} (ht : TIok P T ti) {v : Value} (hl : (cls v).length = ti.size) {ad : Addr} {w w' : World} (hs : (storeCells ad (cls v)).run P w = .ok () w') : (storeVar T ad v).run P w = .ok () w' := by
  unfold storeVar
  rw [← cls_eq, Array.length_toList] at hl
  simp [run_sizeOf ht, hl, cls_eq, hs]

theorem markE_sound {P : Program} {h : Hp} {w : World} (own : Own h w) {A : Option Addr} {n cap : Nat} {K : Value → Hp → Prop} (hE : markE h A n cap K) {t e : TypeId} (hu : P.underlying t = some (.slice e)) (he : P.underlying e = some (.int .u8)) :
    ∃ v h' w', (convert t t (.slice A n cap)).run P w = .ok v w' ∧ Tr w h w' h' ∧ K v h' := by
  obtain ⟨i, hE⟩ := hE
  obtain ⟨y, hy, hE⟩ := nthK_eq _ _ _ hE
  split at hE <;> first | exact hE.elim | skip
  rename_i A1 n1 cap1 e1 sz1 xs fz
  obtain ⟨rfl, ⟨g, rfl⟩, rfl, rfl, hK⟩ := hE
  rw [setHK_eq] at hK
  have hw := own.all _ (List.mem_of_getElem? hy)
  have hw0 := hw
  obtain ⟨a1, a2, a3, a4, _, _, rest, hh, hl, _⟩ := hw
  simp only [Nat.mul_one] at hl
  refine ⟨_, _, setBlk w g (.cells (xs ++ rest).toArray e1 (cap1, cap1 + 1)), ?_, Tr.at_ own hy (Tr.setBlk_ (g := g) rfl rfl ?_), hK⟩
  · have hsh : w.shape? g = some (e1, cap1) := by
      unfold World.shape?
      rw [hh]
      simp only [List.size_toArray, hl]
    unfold convert
    simp only [Sem.run_bind, run_underlying hu, run_underlying he, Result.andThen_ok, beq_self_eq_true, markStringish, run_shape, hsh, run_freeze, Sem.run_pure]
    rw [freeze_eq w g cap1 _ e1 hh]
  · exact ⟨a1, a2, a3, a4, rfl, rfl, rest, setBlk_get _ _ _ (heap_lt hh), by simpa using hl, .inr (by simp)⟩

/-- An operation that yields a value and may have changed the memory. -/
theorem wp_value {P : Program} {o : Oper} {ρ : List Value} {ds : List Deferred} {h h' : Hp} {w w' : World} {K : Value → Hp → Prop} {next : Act → World → Prop} {Q : Exit → Act → World → Prop} {v : Value}
    (hn : ∀ v h' w', K v h' → Tr w h w' h' → next ((act ρ ds).put o.dst v) w') (hrun : (execOp (ev ρ) o).run P w = .ok (.value v) w') (ht : Tr w h w' h') (hK : K v h') : o.wp P (act ρ ds) w next Q := by
  unfold Oper.wp
  rw [act_eval, hrun]
  exact hn v h' w' hK ht

theorem wp_of_sem {P : Program} {o : Oper} {ρ : List Value} {ds : List Deferred} {h : Hp} {w : World} {K : Value → Hp → Prop} {next : Act → World → Prop} {Q : Exit → Act → World → Prop} {s : Sem Value} (he : execOp (ev ρ) o = (do pure (.value (← s)) : Sem Next))
    (hn : ∀ v h' w', K v h' → Tr w h w' h' → next ((act ρ ds).put o.dst v) w') (hs : ∃ v h' w', s.run P w = .ok v w' ∧ Tr w h w' h' ∧ K v h') : o.wp P (act ρ ds) w next Q := by
  obtain ⟨v, h', w', hr, ht, hK⟩ := hs
  exact wp_value hn (by rw [he]; simp only [Sem.run_bind, hr, Result.andThen_ok, Sem.run_pure]) ht hK

theorem wp_of_yld {P : Program} {R : Rd} {o : Oper} {ρ : List Value} {ds : List Deferred} {h : Hp} {w : World} {K : Value → Hp → Prop} {next : Act → World → Prop} {Q : Exit → Act → World → Prop} (own : Own h w) (hr : RSat R w)
    (hn : ∀ v h' w', K v h' → Tr w h w' h' → next ((act ρ ds).put o.dst v) w') (hy : ∃ v, Yld P (RH R h) ρ o v ∧ K v h) : o.wp P (act ρ ds) w next Q := by
  obtain ⟨v, hv, hK⟩ := hy
  exact wp_value hn (hv w (hr.rh own)) (Tr.refl own) hK

theorem wp_call {P : Program} {R : Rd} {o : Oper} {ρ : List Value} {ds : List Deferred} {h : Hp} {w : World} {K : Value → Hp → Prop} {next : Act → World → Prop} {Q : Exit → Act → World → Prop} (own : Own h w) (hr : RSat R w) (ap : Apart R h)
    (hn : ∀ v h' w', K v h' → Tr w h w' h' → next ((act ρ ds).put o.dst v) w') {f : FuncId} {args : List Value} (hrun : Callable P f → (execOp (ev ρ) o).run P w = .ok (.enter f args.toArray) w)
    (hE : callE P R h f args K) : o.wp P (act ρ ds) w next Q := by
  obtain ⟨is, hE⟩ := hE
  obtain ⟨hs, rest, hp, Post, hF, hK⟩ := pickK_sound _ _ _ hE
  have own2 := own.perm hp
  have ap2 := ap.perm hp
  unfold Oper.wp
  rw [act_eval, hrun hF.1]
  refine (hF.2 w own2.left (fun a v hv => ?_) (ap2.rh own2)).mono fun e w' he => ?_
  · rcases hv with hv | ⟨x, hx, hc⟩
    · exact hr a v hv
    · exact HA.cell_sound (own2.all x (List.mem_append_right _ hx)) hc
  · obtain ⟨v, h', rfl, hq, ht⟩ := he
    have hk := hK v h' hq
    rw [apHK_eq] at hk
    exact hn v _ w' hk ((Tr.refl own).frame hp ht)

theorem opE_sound {P : Program} {tab : Tab} (htab : TabOk P tab) {R : Rd} {o : Oper} {ρ : List Value} {ds : List Deferred} {h : Hp} {w : World} {K : Value → Hp → Prop} {next : Act → World → Prop} {Q : Exit → Act → World → Prop} (own : Own h w) (hr : RSat R w) (ap : Apart R h)
    (hn : ∀ v h' w', K v h' → Tr w h w' h' → next ((act ρ ds).put o.dst v) w') (hE : opE P tab R ρ h K o.op) : o.wp P (act ρ ds) w next Q := by
  obtain ⟨dst, op, type, pos, after, guard⟩ := o
  simp only at hE
  unfold opE at hE
  split at hE
  case h_1 =>
    rename_i T
    split at hE <;> first | exact hE.elim | skip
    rename_i ti hti
    refine wp_of_sem (s := Instr.alloc T true (.tuple #[])) rfl hn ?_
    have hK := hE w.heap.size
    rw [snocK_eq] at hK
    refine ⟨_, _, w.alloc (.cells (cls ti.zero).toArray T), ?_, Tr.new own (Tr.alloc w _ rfl (holds_blk_new w T _)), hK⟩
    unfold Instr.alloc
    simp only [Sem.run_bind, run_zero (lk_ok htab hti), Result.andThen_ok, newVar, newRow_eq, Sem.run_pure, ← cls_eq]
  case h_2 =>
    rename_i T x
    rw [evK_eq] at hE
    refine wp_of_sem (s := Instr.box T (ev ρ x)) rfl hn ?_
    have hK := hE w.heap.size
    rw [snocK_eq] at hK
    refine ⟨_, _, w.alloc (.cells (cls (ev ρ x)).toArray T), ?_, Tr.new own (Tr.alloc w _ rfl (holds_blk_new w T _)), hK⟩
    unfold Instr.box
    simp only [Sem.run_bind, Result.andThen_ok, newVar, newRow_eq, Sem.run_pure, ← cls_eq]
  case h_3 =>
    rename_i T a x
    rw [evK_eq, evK_eq] at hE
    split at hE <;> first | exact hE.elim | skip
    rename_i ad ti hp hti
    obtain ⟨hl, h1, i, hE⟩ := hE
    obtain ⟨y, hy, hE⟩ := nthK_eq _ _ _ hE
    obtain ⟨y', hK, hst⟩ := stE_sound (P := P) (allOne_iff h1) hE
    rw [setHK_eq] at hK
    obtain ⟨w', hrun, ht⟩ := hst w (own.all y (List.mem_of_getElem? hy))
    unfold Oper.wp
    rw [act_eval]
    simp only [execOp, hp, Instr.storeAt, Instr.sureAddr, Sem.run_bind, Sem.run_pure, Result.andThen_ok, run_storeVar (lk_ok htab hti) hl hrun]
    exact hn undef _ w' hK (Tr.at_ own hy ht)
  case h_4 =>
    rename_i T len parts
    split at hE <;> first | exact hE.elim | skip
    rename_i ti hti
    split at hE <;> first | exact hE.elim | skip
    rename_i e hk
    split at hE <;> first | exact hE.elim | skip
    rename_i ei he
    obtain ⟨hb, hE⟩ := chkB_of hE
    simp only [Bool.and_eq_true] at hb
    have h0 : 0 < ei.size := Nat.le_of_ble_eq_true hb.1.1
    have hz := Nat.eq_of_beq_eq_true hb.1.2
    have hl := Nat.le_of_ble_eq_true hb.2
    refine wp_of_sem (s := Instr.buildSlice T len (parts.map fun (x : Nat × Operand) => (x.1, ev ρ x.2))) rfl hn ?_
    rw [evs_pairs]
    exact buildSlice_sound htab own hti hk he h0 hz hl hE
  case h_5 =>
    rename_i T l c
    rw [evK_eq, evK_eq] at hE
    exact wp_of_sem (s := Instr.makeSlice T (ev ρ l) (ev ρ c)) rfl hn (makeE_sound htab own hE)
  case h_6 =>
    rename_i src dst x
    rw [evK_eq] at hE
    split at hE
    · rename_i s hs
      split at hE <;> first | exact hE.elim | skip
      rename_i si di hsi hdi
      split at hE <;> first | exact hE.elim | skip
      · rename_i e hk1 hk2
        split at hE <;> first | exact hE.elim | skip
        rename_i ei he
        obtain ⟨hb, hl, hK⟩ := chkB_of hE
        simp only [Bool.and_eq_true] at hb
        have e1 : ei.kind = .int .u8 := by have := hb.1; unfold isU8 at this; split at this <;> first | assumption | cases this
        refine wp_of_sem (s := convert src dst (ev ρ x)) rfl hn ?_
        obtain ⟨cap, w', hrun, ht⟩ := run_stringToBytes (P := P) e s w hl
        have hK := hK w.heap.size cap
        rw [snocK_eq] at hK
        refine ⟨_, _, w', ?_, Tr.new own ht, hK⟩
        rw [hs]
        unfold convert
        simp only [Sem.run_bind, run_underlying ((lk_ok htab hsi).string hk1), run_underlying ((lk_ok htab hdi).slice hk2), Result.andThen_ok, run_underlying ((lk_ok htab he).int e1), hrun]
      · rename_i hk1 hk2
        refine wp_of_sem (s := convert src dst (ev ρ x)) rfl hn ⟨_, _, w, ?_, Tr.refl own, hE⟩
        rw [hs]
        unfold convert
        simp only [Sem.run_bind, run_underlying ((lk_ok htab hsi).string hk1), run_underlying ((lk_ok htab hdi).string hk2), Result.andThen_ok, Sem.run_pure]
    · rename_i A n cap hs
      split at hE <;> first | exact hE.elim | skip
      rename_i si di hsi hdi
      split at hE
      · rename_i e e2 hk1 hk2
        split at hE <;> first | exact hE.elim | skip
        rename_i ei he
        obtain ⟨hb, hE2⟩ := chkB_of hE
        simp only [Bool.and_eq_true] at hb
        obtain rfl := Nat.eq_of_beq_eq_true hb.1
        have e1 : ei.kind = .int .u8 := by have := hb.2; unfold isU8 at this; split at this <;> first | assumption | cases this
        obtain ⟨v, h', w', hrun, htr, hK⟩ := markE_sound (P := P) own hE2 ((lk_ok htab hsi).slice hk1) ((lk_ok htab he).int e1)
        refine wp_of_sem (s := convert src src (ev ρ x)) rfl hn ⟨v, h', w', by rw [hs]; exact hrun, htr, hK⟩
      · obtain ⟨v, hv, hK⟩ := conv_sound (P := P) htab hE
        exact wp_of_sem (s := convert src dst (ev ρ x)) rfl hn ⟨v, h, w, by rw [hs]; exact hv w (hr.rh own), Tr.refl own, hK⟩
    · obtain ⟨v, hv, hK⟩ := conv_sound (P := P) htab hE
      exact wp_of_sem (s := convert src dst (ev ρ x)) rfl hn ⟨v, h, w, hv w (hr.rh own), Tr.refl own, hK⟩
  case h_7 =>
    rename_i f args ats
    rw [evK_eq, evsK_eq] at hE
    split at hE <;> first | exact hE.elim | skip
    rename_i f' first cap hf
    rw [apVK_eq, apVK_eq] at hE
    refine wp_call own hr ap hn (fun hc => ?_) hE
    simp only [execOp, resolve, Deferred.ofValue, hf, invoke, Sem.run_bind, Sem.run_pure, Result.andThen_ok]
    have : (first ++ args.map (ev ρ) ++ cap) = (first.toList ++ (args.toList.map (ev ρ) ++ cap.toList)).toArray := by
      apply Array.ext'; simp
    rw [this]
    exact run_callFunc_of hc _ w
  case h_8 =>
    rename_i args ats
    split at hE <;> first | exact hE.elim | skip
    rename_i s x T U ha ht
    obtain ⟨args⟩ := args
    obtain ⟨ats⟩ := ats
    simp only at ha ht
    subst ha ht
    rw [evK_eq, evK_eq] at hE
    obtain ⟨v, h', w', hrun, htr, hK⟩ := appE_sound (ty := type) htab own hr hE
    refine wp_value hn ?_ htr hK
    simp only [execOp, resolve, invoke, builtin, Sem.run_bind, Sem.run_pure, Result.andThen_ok, List.map_toArray, List.map_cons, List.map_nil, hrun]
  case h_9 =>
    rename_i args ats
    split at hE <;> first | exact hE.elim | skip
    rename_i s x T U ha ht
    obtain ⟨args⟩ := args
    obtain ⟨ats⟩ := ats
    simp only at ha ht
    subst ha ht
    rw [evK_eq, evK_eq] at hE
    obtain ⟨v, h', w', hrun, htr, hK⟩ := copyE_sound (U := U) (ty := type) htab own hr hE
    refine wp_value hn ?_ htr hK
    simp only [execOp, resolve, invoke, builtin, Sem.run_bind, Sem.run_pure, Result.andThen_ok, List.map_toArray, List.map_cons, List.map_nil, hrun]
  case h_10 =>
    rename_i T
    split at hE <;> first | exact hE.elim | skip
    refine wp_of_sem (s := Instr.makeMap T .none) rfl hn ?_
    have hK := hE w.heap.size
    rw [snocK_eq] at hK
    refine ⟨_, _, w.alloc (.map #[] 0), ?_, Tr.new own (Tr.newObj _ (fun _ _ _ e => by cases e)), hK⟩
    unfold Instr.makeMap
    simp only [Sem.run_bind, Sem.run_pure]
    rfl
  case h_11 =>
    rename_i T x ix ok
    rw [evK_eq, evK_eq] at hE
    exact wp_of_sem (s := Instr.lookup T (ev ρ x) (ev ρ ix) ok) rfl hn (lookE_sound htab own hE)
  case h_12 =>
    rename_i T m k x
    rw [evK_eq, evK_eq, evK_eq] at hE
    obtain ⟨h', w', hrun, ht, hK⟩ := mupdE_sound (P := P) htab own hE
    unfold Oper.wp
    rw [act_eval]
    simp only [execOp, Sem.run_bind, hrun, Result.andThen_ok, Sem.run_pure]
    exact hn undef _ w' hK ht
  case h_13 =>
    rename_i T x
    rw [evK_eq] at hE
    exact wp_of_sem (s := Instr.range T (ev ρ x)) rfl hn (rangeE_sound htab own hE)
  case h_14 =>
    rename_i it
    rw [evK_eq] at hE
    exact wp_of_sem (s := Instr.next (ev ρ it) false type) rfl hn (nextE_sound own hE)
  case h_15 =>
    rename_i it
    rw [evK_eq] at hE
    exact wp_of_sem (s := Instr.entry (ev ρ it)) rfl hn (entryE_sound own hE)
  case h_16 =>
    rename_i T n
    rw [evK_eq] at hE
    split at hE <;> first | exact hE.elim | skip
    rename_i k m hv
    obtain ⟨kt, et, ki, ei, hu, _, _, hE⟩ := mapTab_sound htab hE
    refine wp_of_sem (s := Instr.makeMap T (some (ev ρ n))) rfl hn ?_
    have hK := hE w.heap.size
    rw [snocK_eq] at hK
    refine ⟨_, _, w.alloc (.map #[] 0), ?_, Tr.new own (Tr.newObj _ (fun _ _ _ e => by cases e)), hK⟩
    unfold Instr.makeMap
    rw [hv]
    simp only [Sem.run_bind, run_underlying hu, Result.andThen_ok, asInt, asIntOf, Sem.run_pure]
    rfl
  case h_17 =>
    exact wp_of_yld own hr hn (opQ_sound htab hE)

end Go.Proofs.YtgnmbgbiajgpeaaDoor

namespace Go.Proofs.YtgnmbgbiajgpeaaDoor
open Go Go.RowKit

abbrev Kont := List Value → List Deferred → Hp → Prop

def putK (d : Option Tmp) (v : Value) (ρ : List Value) (K : List Value → Prop) : Prop :=
  match d with
  | some d => stK ρ d v K
  | .none => K ρ
def putL (d : Option Tmp) (v : Value) (ρ : List Value) : List Value :=
  match d with
  | some d => ρ.set d v
  | .none => ρ
theorem putK_eq (d : Option Tmp) (v : Value) (ρ : List Value) (K : List Value → Prop) : putK d v ρ K = K (putL d v ρ) := by
  cases d <;> simp [putK, putL, stK_eq]
theorem act_putL (ρ : List Value) (ds : List Deferred) (d : Option Tmp) (v : Value) : (act ρ ds).put d v = act (putL d v ρ) ds := by
  cases d
  · rfl
  · exact act_put _ _ _ _

def nthO : List Oper → Nat → Option Oper
  | [], _ => .none
  | o :: _, 0 => some o
  | _ :: r, n + 1 => nthO r n
theorem nthO_eq : ∀ (l : List Oper) (n : Nat), nthO l n = l[n]?
  | [], _ => rfl
  | _ :: _, 0 => rfl
  | _ :: r, n + 1 => by simp [nthO, nthO_eq r n]

/-- Is the operation to be carried out? -/
def guardK (all : List Oper) (o : Oper) (ρ : List Value) (yes no : Prop) : Prop :=
  match o.guard with
  | .none => yes
  | some (j, want) => (match nthO all j with
    | some oj => (match oj.dst with
      | some t => gtK (fun v => match v with
        | .bool b => (match want with | true => (b = true → yes) ∧ (b = false → no) | false => (b = false → yes) ∧ (b = true → no))
        | _ => no) ρ t
      | .none => no)
    | .none => no)

theorem guardK_sound {all : List Oper} {o : Oper} {ρ : List Value} {yes no : Prop} (h : guardK all o ρ yes no) :
    (Region.wanted o (yielded all.toArray ρ.toArray) = true ∧ yes) ∨ (Region.wanted o (yielded all.toArray ρ.toArray) = false ∧ no) := by
  unfold guardK at h
  unfold Region.wanted
  split at h
  · rename_i hg; rw [hg]; exact .inl ⟨rfl, h⟩
  · rename_i j want hg
    rw [hg]
    simp only
    have hy : yielded all.toArray ρ.toArray j = (match (nthO all j).bind (·.dst) with | some t => (match ρ[t]? with | some (.bool b) => some b | _ => .none) | .none => .none) := by
      unfold yielded
      rw [nthO_eq]
      simp only [List.getElem?_toArray]
      cases (all[j]?).bind (·.dst) with
      | none => rfl
      | some t =>
        simp only [Option.bind_some]
        cases ρ[t]? with
        | none => rfl
        | some v => cases v <;> rfl
    rw [hy]
    split at h
    · rename_i oj hj
      rw [hj]
      simp only [Option.bind_some]
      split at h
      · rename_i t ht
        rw [gtK_eq] at h
        have hgt : gt ρ t = ρ.getD t undef := by rw [← gt_eq]; simp
        cases hρ : ρ[t]? with
        | none =>
          have : gt ρ t = undef := by rw [hgt]; simp [List.getD, hρ]
          rw [this] at h
          exact .inr ⟨by simp, h⟩
        | some v =>
          have : gt ρ t = v := by rw [hgt]; simp [List.getD, hρ]
          rw [this] at h
          cases v with
          | bool b =>
            simp only at h
            cases want <;> cases b <;> simp at h ⊢ <;> exact h
          | _ => exact .inr ⟨by simp, h⟩
      · exact .inr ⟨by simp, h⟩
    · rename_i hj; rw [hj]; exact .inr ⟨by simp, h⟩

/-- One operation of a region. -/
def vcOp (P : Program) (tab : Tab) (R : Rd) (all : List Oper) (o : Oper) (ρ : List Value) (ds : List Deferred) (h : Hp) (K : Kont) : Prop :=
  guardK all o ρ
    (match o.op with
      | .defer { callee := .value f, args, .. } => evK ρ f fun fv => evsK ρ args.toList fun avs => (match fv with
        | .func fn first cap => apVK avs (fun l => putK o.dst undef ρ fun ρ' => K ρ' ({ target := .fn fn cap, args := ⟨l⟩ } :: ds) h) first.toList
        | _ => False)
      | op => opE P tab R ρ h (fun v h' => putK o.dst v ρ fun ρ' => K ρ' ds h') op)
    (putK o.dst undef ρ fun ρ' => K ρ' ds h)

theorem vcOp_sound {P : Program} {tab : Tab} (htab : TabOk P tab) {R : Rd} {all : List Oper} {o : Oper} {ρ : List Value} {ds : List Deferred} {h : Hp} {w : World} {K : Kont} {next : Act → World → Prop} {Q : Exit → Act → World → Prop} (own : Own h w) (hr : RSat R w) (ap : Apart R h)
    (hn : ∀ ρ' ds' h' w', K ρ' ds' h' → Tr w h w' h' → next (act ρ' ds') w') (hE : vcOp P tab R all o ρ ds h K) :
    if Region.wanted o (yielded all.toArray (act ρ ds).tmps) then o.wp P (act ρ ds) w next Q else next ((act ρ ds).put o.dst undef) w := by
  unfold vcOp at hE
  rcases guardK_sound hE with ⟨hw, hE⟩ | ⟨hw, hE⟩
  · rw [if_pos hw]
    split at hE
    · rename_i f args ats hop
      rw [evK_eq, evsK_eq] at hE
      split at hE <;> first | exact hE.elim | skip
      rename_i fn first cap hf
      rw [apVK_eq, putK_eq] at hE
      unfold Oper.wp
      rw [act_eval]
      have hrun : (execOp (ev ρ) o).run P w = .ok (.defer { target := .fn fn cap, args := ⟨first.toList ++ args.toList.map (ev ρ)⟩ }) w := by
        unfold execOp
        simp only [hop, resolve, Deferred.ofValue, hf, Sem.run_bind, Sem.run_pure, Result.andThen_ok]
        congr 4
        apply Array.ext'; simp
      rw [hrun, Oper.upon_defer]
      have := hn _ _ _ w hE (Tr.refl own)
      rw [← act_putL] at this
      exact this
    · refine opE_sound htab own hr ap (fun v h' w' hK ht => ?_) hE
      rw [act_putL]
      rw [putK_eq] at hK
      exact hn _ _ _ w' hK ht
  · rw [if_neg (by rw [show (act ρ ds).tmps = ρ.toArray from rfl, hw]; simp), act_putL]
    rw [putK_eq] at hE
    exact hn _ _ _ w hE (Tr.refl own)

def vcOps (P : Program) (tab : Tab) (R : Rd) (all : List Oper) (K : Kont) : List Oper → Kont
  | [] => K
  | o :: r => fun ρ ds h => vcOp P tab R all o ρ ds h fun ρ' ds' h' => vcOps P tab R all K r ρ' ds' h'

theorem vcOps_sound {P : Program} {tab : Tab} (htab : TabOk P tab) {R : Rd} {all : List Oper} {K : Kont} {Q : Exit → Act → World → Prop} : ∀ (l : List Oper) {ρ : List Value} {ds : List Deferred} {h : Hp} {w : World}, Own h w → RSat R w → Apart R h →
    (∀ ρ' ds' h' w', K ρ' ds' h' → Tr w h w' h' → Q .normal (act ρ' ds') w') → vcOps P tab R all K l ρ ds h → wpList P all.toArray Q l (act ρ ds) w
  | [], ρ, ds, h, w, own, _, _, hn, hE => hn _ _ _ w hE (Tr.refl own)
  | o :: r, ρ, ds, h, w, own, hr, ap, hn, hE => by
    have := vcOp_sound (Q := Q) (next := wpList P all.toArray Q r) htab own hr ap (fun ρ' ds' h' w' hK ht =>
      vcOps_sound htab r ht.own (hr.tr ap ht) (Apart.tr hr ap ht) (fun ρ2 ds2 h2 w2 hK2 ht2 => hn _ _ _ w2 hK2 (ht.trans ht2)) hK) hE
    unfold wpList
    split
    · rename_i hw; rw [if_pos hw] at this; exact .inl this
    · rename_i hw; rw [if_neg hw] at this; exact this

/-! ### a region whose order is drawn -/
/-- The order in which the operations are looked at: 'q': one that leaves the world alone and may be taken first; 'one': the only one that is ready; 'two': two that are ready. -/
inductive OT where
  | nil
  | q (i : Nat) (t : OT)
  | one (i : Nat) (t : OT)
  | two (i : Nat) (s : OT) (j : Nat) (t : OT)
  | fin (i : Nat)
  | three (i : Nat) (s : OT) (j : Nat) (t : OT) (k : Nat) (u : OT)
  | four (i : Nat) (s : OT) (j : Nat) (t : OT) (k : Nat) (u : OT) (l : Nat) (v : OT)
  | cut (t : OT)

/-- The operation comes behind all others. -/
def isLast (ops : Array Oper) (i : Nat) : Bool :=
  match ops[i]? with
  | some o => (List.range ops.size).all fun k => k == i || o.after.toList.any fun e => e.on == k && Region.binds .any e
  | .none => false

def chkT (ops : Array Oper) : Nat → OT → Array Bool → Bool
  | 0, .nil, L => (Region.ready .any ops L).isEmpty
  | 1, .fin i, L => (Region.ready .any ops L == [i]) && isLast ops i && (Region.ready .any ops (L.setIfInBounds i true)).isEmpty
  | n + 1, .q i t, L => (Region.ready .any ops L).contains i && Region.free .any ops L i && chkT ops n t (L.setIfInBounds i true)
  | n + 1, .one i t, L => (Region.ready .any ops L == [i]) && chkT ops n t (L.setIfInBounds i true)
  | n + 1, .two i s j t, L => (Region.ready .any ops L == [i, j]) && chkT ops n s (L.setIfInBounds i true) && chkT ops n t (L.setIfInBounds j true)
  | n + 1, .three i s j t k u, L => (Region.ready .any ops L == [i, j, k]) && chkT ops n s (L.setIfInBounds i true) && chkT ops n t (L.setIfInBounds j true) && chkT ops n u (L.setIfInBounds k true)
  | n + 1, .four i s j t k u l v, L => (Region.ready .any ops L == [i, j, k, l]) && chkT ops n s (L.setIfInBounds i true) && chkT ops n t (L.setIfInBounds j true) && chkT ops n u (L.setIfInBounds k true) && chkT ops n v (L.setIfInBounds l true)
  | _, _, _ => false

def endB (k : Nat) : OT → Bool
  | .nil => Nat.beq k 0
  | .fin _ => Nat.beq k 1
  | .q _ t => endB k t
  | .one _ t => endB k t
  | .two _ s _ t => endB k s && endB k t
  | .three _ s _ t _ u => endB k s && endB k t && endB k u
  | .four _ s _ t _ u _ v => endB k s && endB k t && endB k u && endB k v
  | .cut _ => false
def chkR (ops : Array Oper) (t : OT) : Bool := Region.noSelect ops && chkT ops ops.size t (Array.replicate ops.size false) && (endB 0 t || (endB 1 t && Nat.blt 0 ops.size))

def vcT (P : Program) (tab : Tab) (R : Rd) (all : List Oper) (K : Kont) (KF : Oper → Kont) : OT → Kont
  | .nil => K
  | .fin i => fun ρ ds h => (match nthO all i with
    | some o => KF o ρ ds h
    | .none => False)
  | .q i t => fun ρ ds h => (match nthO all i with
    | some o => guardK all o ρ (opQ tab R ρ (fun v => putK o.dst v ρ fun ρ' => vcT P tab R all K KF t ρ' ds h) o.op) (putK o.dst undef ρ fun ρ' => vcT P tab R all K KF t ρ' ds h)
    | .none => False)
  | .one i t => fun ρ ds h => (match nthO all i with
    | some o => vcOp P tab R all o ρ ds h fun ρ' ds' h' => vcT P tab R all K KF t ρ' ds' h'
    | .none => False)
  | .two i s j t => fun ρ ds h => (match nthO all i, nthO all j with
    | some o, some u => vcOp P tab R all o ρ ds h (fun ρ' ds' h' => vcT P tab R all K KF s ρ' ds' h') ∧ vcOp P tab R all u ρ ds h (fun ρ' ds' h' => vcT P tab R all K KF t ρ' ds' h')
    | _, _ => False)
  | .three i s j t k u => fun ρ ds h => (match nthO all i, nthO all j, nthO all k with
    | some o, some p, some q => vcOp P tab R all o ρ ds h (fun ρ' ds' h' => vcT P tab R all K KF s ρ' ds' h') ∧ vcOp P tab R all p ρ ds h (fun ρ' ds' h' => vcT P tab R all K KF t ρ' ds' h') ∧ vcOp P tab R all q ρ ds h (fun ρ' ds' h' => vcT P tab R all K KF u ρ' ds' h')
    | _, _, _ => False)
  | .four i s j t k u l v => fun ρ ds h => (match nthO all i, nthO all j, nthO all k, nthO all l with
    | some o, some p, some q, some r => vcOp P tab R all o ρ ds h (fun ρ' ds' h' => vcT P tab R all K KF s ρ' ds' h') ∧ vcOp P tab R all p ρ ds h (fun ρ' ds' h' => vcT P tab R all K KF t ρ' ds' h') ∧ vcOp P tab R all q ρ ds h (fun ρ' ds' h' => vcT P tab R all K KF u ρ' ds' h') ∧ vcOp P tab R all r ρ ds h (fun ρ' ds' h' => vcT P tab R all K KF v ρ' ds' h')
    | _, _, _, _ => False)
  | .cut _ => fun _ _ _ => False

/-- Whatever order is picked, in a world of the class at every stage; 'T': what holds when all but the last operation are done. -/
def anyC (P : Program) (ops : Array Oper) (C : World → Prop) (Q : Exit → Act → World → Prop) (T : Array Bool → Act → World → Prop) : Nat → Array Bool → Act → World → Prop
  | 0, listed, a, w => C w ∧ T listed a w
  | fuel + 1, listed, a, w => C w ∧ (Region.ready .any ops listed = [] → Q .normal a w) ∧
    ∀ i ∈ Region.ready .any ops listed, wpOp P ops Q i (anyC P ops C Q T fuel (listed.setIfInBounds i true)) a w

theorem anyC.cls {P : Program} {ops : Array Oper} {C : World → Prop} {Q : Exit → Act → World → Prop} {T : Array Bool → Act → World → Prop} {n : Nat} {L : Array Bool} {a : Act} {w : World} (h : anyC P ops C Q T n L a w) : C w := by
  cases n <;> exact h.1

theorem anyC_any {P : Program} {ops : Array Oper} {C : World → Prop} {Q : Exit → Act → World → Prop} {T : Array Bool → Act → World → Prop} {k : Nat} (hT : ∀ L a w, T L a w → wpAny P .any ops Q k L a w) : ∀ (n : Nat) (L : Array Bool) (a : Act) (w : World), anyC P ops C Q T n L a w → wpAny P .any ops Q (n + k) L a w
  | 0, _, _, _, h => by rw [Nat.zero_add]; exact hT _ _ _ h.2
  | n + 1, _, _, _, h => by
    rw [show n + 1 + k = (n + k) + 1 by omega]
    exact ⟨h.2.1, fun i hi => wpOp_mono (fun a w => anyC_any hT n _ a w) (h.2.2 i hi)⟩

theorem wpOp_put' {P : Program} {ops : Array Oper} {Q : Exit → Act → World → Prop} {j : Nat} {oi oj : Oper} {v : Value} (hj : ops[j]? = some oj) (hap : oi.apart ops oj = true)
    (hsj : ∀ cs b, oj.op ≠ .select cs b) (hQ : ∀ c a w, ¬ Q (.panic c) a w) (hO : ¬ LetsOut Q) {Y : Act → Prop} (keep : ∀ a, Y a → ∀ u, Y (a.put oj.dst u)) (keepD : ∀ a d, Y a → Y { a with defers := d :: a.defers })
    {K : Act → World → Prop} {a : Act} {w : World} (hy : Y a) (h : wpOp P ops Q j K (a.put oi.dst v) w) :
    wpOp P ops Q j (fun a' w' => Y a' ∧ K (a'.put oi.dst v) w') a w := by
  obtain ⟨h1, h2, h3⟩ := Oper.apart_spec hap
  unfold wpOp at *
  simp only [hj] at *
  rw [wanted_put oj a oi.dst v h1] at h
  split
  · rename_i hw
    simp only [hw, if_true] at h
    rcases h with h | ⟨_, hl⟩
    case inr => exact absurd hl hO
    refine .inl ?_
    unfold Oper.wp at *
    rw [execOp_put oj hsj a oi.dst v h1] at h
    generalize (execOp a.eval oj).run P w = r at *
    cases r with
    | ok n w' =>
      cases n <;> simp only [Oper.upon] at h ⊢
      case value u => exact ⟨keep a hy u, by rw [← Act.put_comm a v u h2]; exact h⟩
      case skip => exact ⟨keep a hy undef, by rw [← Act.put_comm a v undef h2]; exact h⟩
      case defer d =>
        refine ⟨keep _ (keepD a d hy) undef, ?_⟩
        rw [Act.put_defers] at h
        rw [← Act.put_comm _ v undef h2]; exact h
      case enter f args =>
        refine Calls.mono h fun e w'' he => ?_
        cases e with
        | returned u => exact ⟨keep a hy u, by rw [← Act.put_comm a v u h2]; exact he⟩
        | panicked c => exact absurd he (hQ _ _ _)
        | outgrown => exact he
      case row r args => exact Rows.mono h fun u w'' he => ⟨keep a hy u, by rw [← Act.put_comm a v u h2]; exact he⟩
    | halt x w' =>
      cases x <;> simp only [Oper.upon] at h ⊢
      exact absurd h (hQ _ _ _)
  · rename_i hw
    simp only [hw] at h
    exact ⟨keep a hy _, by rw [← Act.put_comm a v undef h2]; exact h⟩

/-- The operation yields 'v' in every world of the class, or is not carried out. -/
def YV (P : Program) (ops : Array Oper) (C : World → Prop) (o : Oper) (v : Value) (a : Act) : Prop :=
  (Region.wanted o (yielded ops a.tmps) = true ∧ ∀ w, C w → (execOp a.eval o).run P w = .ok (.value v) w) ∨
  (Region.wanted o (yielded ops a.tmps) = false ∧ v = undef)

theorem YV.of_same {P : Program} {ops : Array Oper} {C : World → Prop} {o : Oper} {v : Value} {a a' : Act} (hy : YV P ops C o v a) (he : execOp a'.eval o = execOp a.eval o)
    (hw : Region.wanted o (yielded ops a'.tmps) = Region.wanted o (yielded ops a.tmps)) : YV P ops C o v a' := by
  unfold YV at *
  rw [he, hw]
  exact hy

theorem YV.op {P : Program} {ops : Array Oper} {C : World → Prop} {Q : Exit → Act → World → Prop} {i : Nat} {o : Oper} {v : Value} {a : Act} {w : World} {K : Act → World → Prop} (hi : ops[i]? = some o) (hy : YV P ops C o v a) (hC : C w) (hK : K (a.put o.dst v) w) : wpOp P ops Q i K a w := by
  unfold wpOp
  simp only [hi]
  rcases hy with ⟨hw, hv⟩ | ⟨hw, rfl⟩
  · simp only [hw, if_true]
    refine .inl ?_
    unfold Oper.wp
    rw [hv w hC]
    exact hK
  · simp only [hw, Bool.false_eq_true, if_false]; exact hK

theorem anyC_first {P : Program} {ops : Array Oper} {C : World → Prop} {Q : Exit → Act → World → Prop} {T : Array Bool → Act → World → Prop} (hT : ∀ L a w, T L a w → ∀ j ∈ Region.ready .any ops L, ∀ L', j ∈ Region.ready .any ops L' → ∀ i ∈ Region.ready .any ops L', i = j) {i : Nat} {oi : Oper} {v : Value} (hi : ops[i]? = some oi) (hsel : ∀ (j : Nat) (o : Oper) cs b, ops[j]? = some o → o.op ≠ .select cs b) (hQ : ∀ c a w, ¬ Q (.panic c) a w) (hO : ¬ LetsOut Q) :
    ∀ (fuel : Nat) (listed : Array Bool) (a : Act) (w : World),
      (∀ j oj, ops[j]? = some oj → j ≠ i → listed.getD j true = false → (∀ e ∈ oj.after, Region.binds .any e = true → e.on ≠ i) → oi.apart ops oj = true) →
      i ∈ Region.ready .any ops listed → YV P ops C oi v a →
      anyC P ops C Q T fuel (listed.setIfInBounds i true) (a.put oi.dst v) w → anyC P ops C Q T (fuel + 1) listed a w := by
  intro fuel
  induction fuel with
  | zero =>
    intro listed a w _ hr hy H
    refine ⟨H.1, fun h => (by rw [h] at hr; cases hr), fun j hj => ?_⟩
    by_cases hji : j = i
    · subst hji; exact hy.op hi H.1 H
    · exact absurd (hT _ _ _ H.2 j (ready_mono hj hji) _ hj i hr).symm hji
  | succ fuel ih =>
    intro listed a w hfree hr hy H
    refine ⟨H.1, fun h => (by rw [h] at hr; cases hr), fun j hj => ?_⟩
    by_cases hji : j = i
    · subst hji; exact hy.op hi H.1 H
    · have h1 := H.2.2 j (ready_mono hj hji)
      obtain ⟨hjun, oj, hoj, hall⟩ := mem_ready.1 hj
      have hnot : ∀ e ∈ oj.after, Region.binds .any e = true → e.on ≠ i := fun e he hb heq => by
        have h1 := hall e he hb
        have h0 := (mem_ready.1 hr).1
        rw [heq] at h1
        rcases Nat.lt_or_ge i listed.size with h' | h'
        · simp [h'] at h0 h1; rw [h0] at h1; cases h1
        · simp [Array.getElem?_eq_none h'] at h1
      have hap := hfree j oj hoj hji hjun hnot
      obtain ⟨_, _, a3⟩ := Oper.apart_spec hap
      have h2 := wpOp_put' (Y := YV P ops C oi v) hoj hap (fun cs b => hsel j oj cs b hoj) hQ hO
        (fun a hy u => hy.of_same (execOp_put oi (fun cs b => hsel i oi cs b hi) a oj.dst u a3) (wanted_put oi a oj.dst u a3)) (fun a d hy => hy.of_same rfl rfl) hy h1
      have hfree' : ∀ k ok, ops[k]? = some ok → k ≠ i → (listed.setIfInBounds j true).getD k true = false →
          (∀ e ∈ ok.after, Region.binds .any e = true → e.on ≠ i) → oi.apart ops ok = true := fun k ok hk hki hun hno => by
        refine hfree k ok hk hki ?_ hno
        by_cases hjk : j = k
        · subst hjk; exact hjun
        · rw [getD_set_ne true hjk] at hun; exact hun
      refine wpOp_mono (fun a' w' h3 => ih (listed.setIfInBounds j true) a' w' hfree' (ready_mono hr (Ne.symm hji)) h3.1 ?_) h2
      rw [Array.setIfInBounds_comm _ _ hji]
      exact h3.2

theorem vcOp_wpOp {P : Program} {tab : Tab} (htab : TabOk P tab) {R : Rd} {all : List Oper} {i : Nat} {o : Oper} {ρ : List Value} {ds : List Deferred} {h : Hp} {w : World} {K : Kont} {next : Act → World → Prop} {Q : Exit → Act → World → Prop} (own : Own h w) (hr : RSat R w) (ap : Apart R h) (hi : nthO all i = some o)
    (hn : ∀ ρ' ds' h' w', K ρ' ds' h' → Tr w h w' h' → next (act ρ' ds') w') (hE : vcOp P tab R all o ρ ds h K) : wpOp P all.toArray Q i next (act ρ ds) w := by
  have := vcOp_sound (Q := Q) htab own hr ap hn hE
  unfold wpOp
  rw [nthO_eq] at hi
  simp only [List.getElem?_toArray, hi]
  split
  · rename_i hw; rw [if_pos hw] at this; exact .inl this
  · rename_i hw; rw [if_neg hw] at this; exact this

theorem chkT_zero {ops : Array Oper} {t : OT} {L : Array Bool} (h : chkT ops 0 t L = true) : t = .nil := by
  cases t <;> simp [chkT] at h ⊢

theorem vcT_sound {P : Program} {tab : Tab} (htab : TabOk P tab) {R : Rd} {all : List Oper} (hsel : Region.noSelect all.toArray = true) {K : Kont} {KF : Oper → Kont} {Q : Exit → Act → World → Prop} {T : Array Bool → Act → World → Prop}
    (hT : ∀ L a w, T L a w → ∀ j ∈ Region.ready .any all.toArray L, ∀ L', j ∈ Region.ready .any all.toArray L' → ∀ i ∈ Region.ready .any all.toArray L', i = j) (hQ : ∀ c a w, ¬ Q (.panic c) a w) (hO : ¬ LetsOut Q) {k : Nat} (hk : k = 0 ∨ k = 1) : ∀ (n : Nat) (t : OT) (L : Array Bool) {ρ : List Value} {ds : List Deferred} {h : Hp} {w : World},
    endB k t = true → chkT all.toArray (n + k) t L = true → Own h w → RSat R w → Apart R h →
    (∀ L ρ' ds' h' w', k = 0 → Region.ready .any all.toArray L = [] → K ρ' ds' h' → Tr w h w' h' → T L (act ρ' ds') w') →
    (∀ L i o ρ' ds' h' w', k = 1 → nthO all i = some o → Region.ready .any all.toArray L = [i] → isLast all.toArray i = true → Region.ready .any all.toArray (L.setIfInBounds i true) = [] → KF o ρ' ds' h' → Tr w h w' h' → T L (act ρ' ds') w') →
    vcT P tab R all K KF t ρ ds h → anyC P all.toArray (RSat R) Q T n L (act ρ ds) w := by
  intro n
  induction n with
  | zero =>
    intro t L ρ ds h w he hc own hr ap hn hf hE
    rcases hk with rfl | rfl
    · obtain rfl := chkT_zero hc
      refine ⟨hr, hn _ _ _ _ w rfl ?_ hE (Tr.refl own)⟩
      simpa [chkT] using hc
    · cases t with
      | nil => simp [endB] at he
      | q i t => simp only [Nat.zero_add, chkT, Bool.and_eq_true] at hc; obtain rfl := chkT_zero hc.2; simp [endB] at he
      | one i t => simp only [Nat.zero_add, chkT, Bool.and_eq_true] at hc; obtain rfl := chkT_zero hc.2; simp [endB] at he
      | two i s j t => simp only [Nat.zero_add, chkT, Bool.and_eq_true] at hc; obtain rfl := chkT_zero hc.2; simp [endB] at he
      | three i s j t k u => simp only [Nat.zero_add, chkT, Bool.and_eq_true] at hc; obtain rfl := chkT_zero hc.2; simp [endB] at he
      | four i s j t k u l v => simp only [Nat.zero_add, chkT, Bool.and_eq_true] at hc; obtain rfl := chkT_zero hc.2; simp [endB] at he
      | cut t => simp [endB] at he
      | fin i =>
        simp only [Nat.zero_add, chkT, Bool.and_eq_true, beq_iff_eq, List.isEmpty_iff] at hc
        unfold vcT at hE
        split at hE <;> first | exact hE.elim | skip
        rename_i o ho
        exact ⟨hr, hf _ i o _ _ _ w rfl ho hc.1.1 hc.1.2 hc.2 hE (Tr.refl own)⟩
  | succ n ih =>
    intro t L ρ ds h w he hc own hr ap hn hf hE
    rw [show n + 1 + k = (n + k) + 1 by omega] at hc
    cases t with
    | nil => simp [chkT] at hc
    | fin i =>
      have hk1 : k = 1 := Nat.eq_of_beq_eq_true he
      subst hk1
      simp [chkT] at hc
    | q i t =>
      simp only [chkT, Bool.and_eq_true] at hc
      obtain ⟨⟨h1, h2⟩, h3⟩ := hc
      unfold vcT at hE
      split at hE <;> first | exact hE.elim | skip
      rename_i o ho
      have hi : all.toArray[i]? = some o := by rw [nthO_eq] at ho; simpa using ho
      have hready : i ∈ Region.ready .any all.toArray L := by simpa using h1
      rcases guardK_sound hE with ⟨hw, hE⟩ | ⟨hw, hE⟩
      · obtain ⟨v, hv, hE⟩ := opQ_sound (P := P) htab hE
        rw [putK_eq] at hE
        refine anyC_first hT hi (Region.noSelect_spec hsel) hQ hO n L _ w (Region.free_spec hi h2) hready (.inl ⟨hw, fun w' hw' => ?_⟩) ?_ (v := v)
        · rw [act_eval]; exact hv w' hw'
        · rw [act_putL]; exact ih t _ he h3 own hr ap hn hf hE
      · rw [putK_eq] at hE
        refine anyC_first hT hi (Region.noSelect_spec hsel) hQ hO n L _ w (Region.free_spec hi h2) hready (.inr ⟨hw, rfl⟩) ?_
        rw [act_putL]; exact ih t _ he h3 own hr ap hn hf hE
    | one i t =>
      simp only [chkT, Bool.and_eq_true, beq_iff_eq] at hc
      obtain ⟨h1, h3⟩ := hc
      unfold vcT at hE
      split at hE <;> first | exact hE.elim | skip
      rename_i o ho
      refine ⟨hr, (fun h0 => by rw [h0] at h1; cases h1), fun j hj => ?_⟩
      rw [h1] at hj
      obtain rfl := List.mem_singleton.1 hj
      exact vcOp_wpOp htab own hr ap ho (fun ρ' ds' h' w' hK ht => ih t _ he h3 ht.own (hr.tr ap ht) (Apart.tr hr ap ht) (fun L ρ2 ds2 h2 w2 e1 e2 hK2 ht2 => hn L _ _ _ w2 e1 e2 hK2 (ht.trans ht2)) (fun L i2 o2 ρ2 ds2 h2 w2 e1 e2 e3 e4 e5 hK2 ht2 => hf L i2 o2 _ _ _ w2 e1 e2 e3 e4 e5 hK2 (ht.trans ht2)) hK) hE
    | two i s j t =>
      simp only [chkT, Bool.and_eq_true, beq_iff_eq] at hc
      obtain ⟨⟨h1, h2⟩, h3⟩ := hc
      simp only [endB, Bool.and_eq_true] at he
      unfold vcT at hE
      split at hE <;> first | exact hE.elim | skip
      rename_i o u ho hu
      refine ⟨hr, (fun h0 => by rw [h0] at h1; cases h1), fun m hm => ?_⟩
      rw [h1] at hm
      rcases List.mem_cons.1 hm with rfl | hm
      · exact vcOp_wpOp htab own hr ap ho (fun ρ' ds' h' w' hK ht => ih s _ he.1 h2 ht.own (hr.tr ap ht) (Apart.tr hr ap ht) (fun L ρ2 ds2 h2 w2 e1 e2 hK2 ht2 => hn L _ _ _ w2 e1 e2 hK2 (ht.trans ht2)) (fun L i2 o2 ρ2 ds2 h2 w2 e1 e2 e3 e4 e5 hK2 ht2 => hf L i2 o2 _ _ _ w2 e1 e2 e3 e4 e5 hK2 (ht.trans ht2)) hK) hE.1
      · obtain rfl := List.mem_singleton.1 hm
        exact vcOp_wpOp htab own hr ap hu (fun ρ' ds' h' w' hK ht => ih t _ he.2 h3 ht.own (hr.tr ap ht) (Apart.tr hr ap ht) (fun L ρ2 ds2 h2 w2 e1 e2 hK2 ht2 => hn L _ _ _ w2 e1 e2 hK2 (ht.trans ht2)) (fun L i2 o2 ρ2 ds2 h2 w2 e1 e2 e3 e4 e5 hK2 ht2 => hf L i2 o2 _ _ _ w2 e1 e2 e3 e4 e5 hK2 (ht.trans ht2)) hK) hE.2
    | three i s j t k u =>
      simp only [chkT, Bool.and_eq_true, beq_iff_eq] at hc
      obtain ⟨⟨⟨h1, h2⟩, h3⟩, h4⟩ := hc
      simp only [endB, Bool.and_eq_true] at he
      unfold vcT at hE
      split at hE <;> first | exact hE.elim | skip
      rename_i o p q ho hp hq
      refine ⟨hr, (fun h0 => by rw [h0] at h1; cases h1), fun m hm => ?_⟩
      rw [h1] at hm
      rcases List.mem_cons.1 hm with rfl | hm
      · exact vcOp_wpOp htab own hr ap ho (fun ρ' ds' h' w' hK ht => ih s _ he.1.1 h2 ht.own (hr.tr ap ht) (Apart.tr hr ap ht) (fun L ρ2 ds2 h2 w2 e1 e2 hK2 ht2 => hn L _ _ _ w2 e1 e2 hK2 (ht.trans ht2)) (fun L i2 o2 ρ2 ds2 h2 w2 e1 e2 e3 e4 e5 hK2 ht2 => hf L i2 o2 _ _ _ w2 e1 e2 e3 e4 e5 hK2 (ht.trans ht2)) hK) hE.1
      rcases List.mem_cons.1 hm with rfl | hm
      · exact vcOp_wpOp htab own hr ap hp (fun ρ' ds' h' w' hK ht => ih t _ he.1.2 h3 ht.own (hr.tr ap ht) (Apart.tr hr ap ht) (fun L ρ2 ds2 h2 w2 e1 e2 hK2 ht2 => hn L _ _ _ w2 e1 e2 hK2 (ht.trans ht2)) (fun L i2 o2 ρ2 ds2 h2 w2 e1 e2 e3 e4 e5 hK2 ht2 => hf L i2 o2 _ _ _ w2 e1 e2 e3 e4 e5 hK2 (ht.trans ht2)) hK) hE.2.1
      · obtain rfl := List.mem_singleton.1 hm
        exact vcOp_wpOp htab own hr ap hq (fun ρ' ds' h' w' hK ht => ih u _ he.2 h4 ht.own (hr.tr ap ht) (Apart.tr hr ap ht) (fun L ρ2 ds2 h2 w2 e1 e2 hK2 ht2 => hn L _ _ _ w2 e1 e2 hK2 (ht.trans ht2)) (fun L i2 o2 ρ2 ds2 h2 w2 e1 e2 e3 e4 e5 hK2 ht2 => hf L i2 o2 _ _ _ w2 e1 e2 e3 e4 e5 hK2 (ht.trans ht2)) hK) hE.2.2
    | four i s j t k u l v =>
      simp only [chkT, Bool.and_eq_true, beq_iff_eq] at hc
      obtain ⟨⟨⟨⟨h1, h2⟩, h3⟩, h4⟩, h5⟩ := hc
      simp only [endB, Bool.and_eq_true] at he
      unfold vcT at hE
      split at hE <;> first | exact hE.elim | skip
      rename_i o p q r ho hp hq hr'
      refine ⟨hr, (fun h0 => by rw [h0] at h1; cases h1), fun m hm => ?_⟩
      rw [h1] at hm
      rcases List.mem_cons.1 hm with rfl | hm
      · exact vcOp_wpOp htab own hr ap ho (fun ρ' ds' h' w' hK ht => ih s _ he.1.1.1 h2 ht.own (hr.tr ap ht) (Apart.tr hr ap ht) (fun L ρ2 ds2 h2 w2 e1 e2 hK2 ht2 => hn L _ _ _ w2 e1 e2 hK2 (ht.trans ht2)) (fun L i2 o2 ρ2 ds2 h2 w2 e1 e2 e3 e4 e5 hK2 ht2 => hf L i2 o2 _ _ _ w2 e1 e2 e3 e4 e5 hK2 (ht.trans ht2)) hK) hE.1
      rcases List.mem_cons.1 hm with rfl | hm
      · exact vcOp_wpOp htab own hr ap hp (fun ρ' ds' h' w' hK ht => ih t _ he.1.1.2 h3 ht.own (hr.tr ap ht) (Apart.tr hr ap ht) (fun L ρ2 ds2 h2 w2 e1 e2 hK2 ht2 => hn L _ _ _ w2 e1 e2 hK2 (ht.trans ht2)) (fun L i2 o2 ρ2 ds2 h2 w2 e1 e2 e3 e4 e5 hK2 ht2 => hf L i2 o2 _ _ _ w2 e1 e2 e3 e4 e5 hK2 (ht.trans ht2)) hK) hE.2.1
      rcases List.mem_cons.1 hm with rfl | hm
      · exact vcOp_wpOp htab own hr ap hq (fun ρ' ds' h' w' hK ht => ih u _ he.1.2 h4 ht.own (hr.tr ap ht) (Apart.tr hr ap ht) (fun L ρ2 ds2 h2 w2 e1 e2 hK2 ht2 => hn L _ _ _ w2 e1 e2 hK2 (ht.trans ht2)) (fun L i2 o2 ρ2 ds2 h2 w2 e1 e2 e3 e4 e5 hK2 ht2 => hf L i2 o2 _ _ _ w2 e1 e2 e3 e4 e5 hK2 (ht.trans ht2)) hK) hE.2.2.1
      · obtain rfl := List.mem_singleton.1 hm
        exact vcOp_wpOp htab own hr ap hr' (fun ρ' ds' h' w' hK ht => ih v _ he.2 h5 ht.own (hr.tr ap ht) (Apart.tr hr ap ht) (fun L ρ2 ds2 h2 w2 e1 e2 hK2 ht2 => hn L _ _ _ w2 e1 e2 hK2 (ht.trans ht2)) (fun L i2 o2 ρ2 ds2 h2 w2 e1 e2 e3 e4 e5 hK2 ht2 => hf L i2 o2 _ _ _ w2 e1 e2 e3 e4 e5 hK2 (ht.trans ht2)) hK) hE.2.2.2
    | cut t => simp [chkT] at hc

theorem isLast_spec {ops : Array Oper} {i : Nat} (h : isLast ops i = true) {L : Array Bool} (hr : i ∈ Region.ready .any ops L) : ∀ j ∈ Region.ready .any ops L, j = i := by
  intro j hj
  obtain ⟨hjun, oj, hoj, _⟩ := mem_ready.1 hj
  obtain ⟨_, oi, hoi, hall⟩ := mem_ready.1 hr
  unfold isLast at h
  rw [hoi] at h
  simp only [List.all_eq_true, List.mem_range, Bool.or_eq_true, beq_iff_eq, List.any_eq_true, Bool.and_eq_true] at h
  have hlt : j < ops.size := (Array.getElem?_eq_some_iff.1 hoj).1
  rcases h j hlt with h | ⟨e, he, ⟨h1, h2⟩⟩
  · exact h
  · have h3 := hall e (by simpa using he) h2
    rw [h1] at h3
    rcases Nat.lt_or_ge j L.size with h' | h'
    · simp [h'] at hjun h3; rw [hjun] at h3; cases h3
    · simp [Array.getElem?_eq_none h'] at h3

def onlyNormal (Q : Exit → Act → World → Prop) : Exit → Act → World → Prop
  | .normal, a, w => Q .normal a w
  | _, _, _ => False

def nilT (ops : Array Oper) (Q : Exit → Act → World → Prop) (L : Array Bool) (a : Act) (w : World) : Prop := Region.ready .any ops L = [] ∧ Q .normal a w
def finT (P : Program) (ops : Array Oper) (Q : Exit → Act → World → Prop) (L : Array Bool) (a : Act) (w : World) : Prop :=
  ∃ i, Region.ready .any ops L = [i] ∧ isLast ops i = true ∧ Region.ready .any ops (L.setIfInBounds i true) = [] ∧ wpOp P ops (onlyNormal Q) i (Q .normal) a w
theorem finT_any {P : Program} {ops : Array Oper} {Q : Exit → Act → World → Prop} (L : Array Bool) (a : Act) (w : World) (h : finT P ops Q L a w) : wpAny P .any ops (onlyNormal Q) 1 L a w := by
  obtain ⟨i, h1, h2, h3, h4⟩ := h
  refine ⟨fun h => (by rw [h] at h1; cases h1), fun j hj => ?_⟩
  rw [h1] at hj
  obtain rfl := List.mem_singleton.1 hj
  exact wpOp_mono (fun a w h => ⟨h3, h⟩) h4
theorem finT_last {P : Program} {ops : Array Oper} {Q : Exit → Act → World → Prop} (L : Array Bool) (a : Act) (w : World) (h : finT P ops Q L a w) : ∀ j ∈ Region.ready .any ops L, ∀ L', j ∈ Region.ready .any ops L' → ∀ i ∈ Region.ready .any ops L', i = j := by
  obtain ⟨i, h1, h2, _⟩ := h
  intro j hj L' hj' m hm
  rw [h1] at hj
  obtain rfl := List.mem_singleton.1 hj
  exact isLast_spec h2 hj' m hm

theorem wp_draw {P : Program} (hm : P.follows .mixedOrders = true) {tab : Tab} (htab : TabOk P tab) {R : Rd} {all : List Oper} {id : Nat} {t : OT} (hc : chkR all.toArray t = true) {K : Kont} {KF : Oper → Kont} {Q : Exit → Act → World → Prop} {ρ : List Value} {ds : List Deferred} {h : Hp} {w : World} (own : Own h w) (hr : RSat R w) (ap : Apart R h)
    (hn : ∀ ρ' ds' h' w', K ρ' ds' h' → Tr w h w' h' → Q .normal (act ρ' ds') w')
    (hf : ∀ i o ρ' ds' h' w', nthO all i = some o → KF o ρ' ds' h' → Tr w h w' h' → wpOp P all.toArray (onlyNormal Q) i (Q .normal) (act ρ' ds') w') (hE : vcT P tab R all K KF t ρ ds h) : (Code.region id all.toArray true).wp P Q (act ρ ds) w := by
  simp only [chkR, Bool.and_eq_true, Bool.or_eq_true] at hc
  have ht := Tr.drew own
  refine Code.wp_mono (Q := onlyNormal Q) (fun e a w h => ?_) (wp_region_any hm ?_)
  · cases e <;> first | exact h | exact False.elim h
  · rcases hc.2 with he | ⟨he, hsz⟩
    · have h1 := vcT_sound (Q := onlyNormal Q) (T := nilT all.toArray Q) (k := 0) htab hc.1.1 (fun L a w h j hj => by rw [h.1] at hj; cases hj) (fun _ _ _ h => h) (fun ⟨_, _, h⟩ => h) (.inl rfl) all.toArray.size t _ he hc.1.2 ht.own (hr.tr ap ht) (Apart.tr hr ap ht) (fun L ρ' ds' h' w' _ e2 hK ht2 => ⟨e2, hn _ _ _ w' hK (ht.trans ht2)⟩) (fun L i o ρ' ds' h' w' e1 => by cases e1) hE
      exact anyC_any (k := 0) (fun L a w h => h) all.toArray.size _ _ _ h1
    · have hs : 0 < all.toArray.size := Nat.le_of_ble_eq_true hsz
      have hs2 : all.toArray.size = (all.toArray.size - 1) + 1 := by omega
      have h0 := hc.1.2
      rw [hs2] at h0
      have h1 := vcT_sound (Q := onlyNormal Q) (T := finT P all.toArray Q) (k := 1) htab hc.1.1 finT_last (fun _ _ _ h => h) (fun ⟨_, _, h⟩ => h) (.inr rfl) (all.toArray.size - 1) t _ he h0 ht.own (hr.tr ap ht) (Apart.tr hr ap ht) (fun L ρ' ds' h' w' e1 => by cases e1) (fun L i o ρ' ds' h' w' _ e2 e3 e4 e5 hK ht2 => ⟨i, e3, e4, e5, hf i o _ _ _ w' e2 hK (ht.trans ht2)⟩) hE
      have h2 := anyC_any (k := 1) finT_any (all.toArray.size - 1) _ _ _ h1
      rw [← hs2] at h2
      exact h2

end Go.Proofs.YtgnmbgbiajgpeaaDoor

namespace Go.Proofs.YtgnmbgbiajgpeaaDoor
open Go Go.RowKit

/-- What is known of the memory may be said otherwise. -/
def Ent (h h' : Hp) : Prop := ∀ w, Own h w → Own h' w ∧ ∀ g ∈ idsOf h', g ∈ idsOf h
theorem Ent.refl (h : Hp) : Ent h h := fun _ o => ⟨o, fun _ hg => hg⟩
theorem Ent.trans {a b c : Hp} (h : Ent a b) (k : Ent b c) : Ent a c := fun w o =>
  ⟨(k w (h w o).1).1, fun g hg => (h w o).2 g ((k w (h w o).1).2 g hg)⟩
theorem Ent.perm {a b : Hp} (p : a.Perm b) : Ent a b := fun _ o => ⟨o.perm p, fun _ hg => (List.Perm.flatMap_right _ p).mem_iff.2 hg⟩
theorem Tr.ent {w w' : World} {h h1 h2 : Hp} (t : Tr w h w' h1) (e : Ent h1 h2) : Tr w h w' h2 :=
  ⟨t.os, t.tape, t.output, t.size, t.keep, (e w' t.own).1, fun g hg => t.fresh g ((e w' t.own).2 g hg)⟩
/-- The row of a nil slice is there for nothing. -/
theorem Ent.nilrow (h : Hp) (e : TypeId) (sz : Nat) : Ent h (h ++ [.row .none 0 0 e sz [] (0, 0)]) := fun w o =>
  ⟨⟨fun x hx => by
    rcases List.mem_append.1 hx with hx | hx
    · exact o.all x hx
    · rw [List.mem_singleton.1 hx]; exact (⟨by simp, by omega, by simp, by simp, rfl⟩ : rowHolds w .none 0 0 e sz [] (0, 0)), by simpa [idsOf, HA.ids, rowIds] using o.nd⟩, fun g hg => by simpa [idsOf, HA.ids, rowIds] using hg⟩
/-- Memory may be forgotten. -/
theorem Ent.drop (a b : Hp) : Ent (a ++ b) a := fun _ o => ⟨o.left, fun g hg => by rw [idsOf_append]; exact List.mem_append_left _ hg⟩
theorem Ent.dropr (a b : Hp) : Ent (a ++ b) b := fun _ o => ⟨o.right, fun g hg => by rw [idsOf_append]; exact List.mem_append_right _ hg⟩

/-- The slots of the mask are whatever they are; the mask's numbers ascend. -/
def mskL : List (Option Nat) → (Nat → Value) → List Value → List Value
  | [], _, l => l
  | _ :: _, _, [] => []
  | some n :: M, js, _ :: l => js n :: mskL M js l
  | .none :: M, js, v :: l => v :: mskL M js l
def mskK : List (Option Nat) → (Nat → Value) → Nat → List Value → (List Value → Prop) → Prop
  | [], _, _, l, K => K l
  | _ :: _, _, _, [], K => K []
  | some n :: M, js, p, _ :: l, K => (match Nat.ble p n with
    | true => mskK M js (n + 1) l fun r => K (js n :: r)
    | false => False)
  | .none :: M, js, p, v :: l, K => mskK M js p l fun r => K (v :: r)
/-- The numbers of the mask ascend from p on, as far as there are slots. -/
def ascM : List (Option Nat) → Nat → List Value → Prop
  | [], _, _ => True
  | _ :: _, _, [] => True
  | some n :: M, p, _ :: l => p ≤ n ∧ ascM M (n + 1) l
  | .none :: M, p, _ :: l => ascM M p l
/-- The values of the masked slots. -/
def valM : List (Option Nat) → List Value → Nat → Value
  | some n :: M, v :: l, k => if k = n then v else valM M l k
  | .none :: M, _ :: l, k => valM M l k
  | _, _, _ => undef
def setsL : List Nat → List Value → List Value → List Value
  | s :: S, v :: vs, ρ => setsL S vs (ρ.set s v)
  | _, _, ρ => ρ
def setsK : List Nat → List Value → List Value → (List Value → Prop) → Prop
  | s :: S, v :: vs, ρ, K => stK ρ s v fun ρ' => setsK S vs ρ' K
  | _, _, ρ, K => K ρ
def agreeE (ρ : List Value) : List Nat → List Value → Prop
  | [], [] => True
  | s :: S, v :: vs => gtK (fun u => u = v) ρ s ∧ agreeE ρ S vs
  | _, _ => False

theorem mskK_sound : ∀ (M : List (Option Nat)) (js : Nat → Value) (p : Nat) (l : List Value) (K : List Value → Prop), mskK M js p l K → ascM M p l ∧ K (mskL M js l)
  | [], _, _, _, _, h => ⟨trivial, h⟩
  | some _ :: _, _, _, [], _, h => ⟨trivial, h⟩
  | .none :: _, _, _, [], _, h => ⟨trivial, h⟩
  | some n :: M, js, p, _ :: l, K, h => by
    unfold mskK at h
    split at h
    · rename_i hb
      obtain ⟨h1, h2⟩ := mskK_sound M js (n + 1) l _ h
      exact ⟨⟨Nat.le_of_ble_eq_true hb, h1⟩, h2⟩
    · exact h.elim
  | .none :: M, js, p, v :: l, K, h => mskK_sound M js p l _ h
theorem mskL_congr : ∀ (M : List (Option Nat)) (js ks : Nat → Value) (p : Nat) (l : List Value), ascM M p l → (∀ n, p ≤ n → js n = ks n) → mskL M js l = mskL M ks l
  | [], _, _, _, _, _, _ => rfl
  | some _ :: _, _, _, _, [], _, _ => rfl
  | .none :: _, _, _, _, [], _, _ => rfl
  | some n :: M, js, ks, p, _ :: l, h, hj => by
    simp only [mskL]
    rw [hj n h.1, mskL_congr M js ks (n + 1) l h.2 fun m hm => hj m (by have := h.1; omega)]
  | .none :: M, js, ks, p, v :: l, h, hj => by
    simp only [mskL]
    rw [mskL_congr M js ks p l h hj]
theorem ascM_len : ∀ (M : List (Option Nat)) (p : Nat) (l l' : List Value), l.length = l'.length → ascM M p l → ascM M p l'
  | [], _, _, _, _, _ => trivial
  | some _ :: _, _, [], [], _, h => trivial
  | .none :: _, _, [], [], _, h => trivial
  | some _ :: _, _, [], _ :: _, e, _ => by simp at e
  | .none :: _, _, [], _ :: _, e, _ => by simp at e
  | some _ :: _, _, _ :: _, [], e, _ => by simp at e
  | .none :: _, _, _ :: _, [], e, _ => by simp at e
  | some n :: M, p, _ :: l, _ :: l', e, h => ⟨h.1, ascM_len M (n + 1) l l' (by simpa using e) h.2⟩
  | .none :: M, p, _ :: l, _ :: l', e, h => ascM_len M p l l' (by simpa using e) h
theorem mskL_length : ∀ (M : List (Option Nat)) (js : Nat → Value) (l : List Value), (mskL M js l).length = l.length
  | [], _, _ => rfl
  | some _ :: _, _, [] => rfl
  | .none :: _, _, [] => rfl
  | some n :: M, js, _ :: l => by simp [mskL, mskL_length M js l]
  | .none :: M, js, _ :: l => by simp [mskL, mskL_length M js l]
theorem setsK_eq : ∀ (S : List Nat) (vs ρ : List Value) (K : List Value → Prop), setsK S vs ρ K = K (setsL S vs ρ)
  | s :: S, v :: vs, ρ, K => by rw [setsK, stK_eq, setsK_eq S vs]; rfl
  | [], [], _, _ => rfl
  | [], _ :: _, _, _ => rfl
  | _ :: _, [], _, _ => rfl
theorem set_gt : ∀ (ρ : List Value) (s : Nat), ρ.set s (gt ρ s) = ρ
  | [], _ => by simp
  | _ :: _, 0 => rfl
  | v :: l, n + 1 => by simp [gt, set_gt l n]
theorem setsL_agree : ∀ (S : List Nat) (vs ρ : List Value), agreeE ρ S vs → setsL S vs ρ = ρ
  | [], [], _, _ => rfl
  | s :: S, v :: vs, ρ, h => by
    obtain ⟨h1, h2⟩ := h
    rw [gtK_eq] at h1
    rw [setsL, ← h1, set_gt]
    exact setsL_agree S vs ρ h2
  | [], _ :: _, _, h => False.elim h
  | _ :: _, [], _, h => False.elim h
theorem mskL_same : ∀ (M : List (Option Nat)) (p : Nat) (l l' : List Value), ascM M p l → mskL M (fun _ => undef) l' = mskL M (fun _ => undef) l → mskL M (valM M l') l = l'
  | [], _, _, _, _, h => h.symm
  | some _ :: _, _, [], [], _, _ => rfl
  | .none :: _, _, [], [], _, _ => rfl
  | some _ :: _, _, [], _ :: _, _, h => by simp [mskL] at h
  | .none :: _, _, [], _ :: _, _, h => by simp [mskL] at h
  | some _ :: _, _, _ :: _, [], _, h => by simp [mskL] at h
  | .none :: _, _, _ :: _, [], _, h => by simp [mskL] at h
  | some n :: M, p, v :: l, v' :: l', ha, h => by
    simp only [mskL, List.cons.injEq, true_and] at h ⊢
    refine ⟨if_pos rfl, ?_⟩
    rw [mskL_congr M (valM (some n :: M) (v' :: l')) (valM M l') (n + 1) l ha.2 fun m hm => if_neg (by omega)]
    exact mskL_same M (n + 1) l l' ha.2 h
  | .none :: M, p, v :: l, v' :: l', ha, h => by
    simp only [mskL, List.cons.injEq] at h ⊢
    exact ⟨h.1.symm, mskL_same M p l l' ha h.2⟩

def loopE (body : Kont → (Nat → Kont) → Kont → Kont) (ρ : List Value) (ds : List Deferred) (h : Hp) (X : Nat → Kont) (Rt : Kont) : Prop :=
  ∃ (W : List (Option Nat)) (S : List Nat) (α : Type) (inv : α → Prop) (fr : α → List Value) (hp : α → Hp) (μ : α → Nat) (x0 : α), inv x0 ∧ agreeE ρ S (fr x0) ∧ Ent h (hp x0) ∧
    ∀ x, inv x → ∀ js : Nat → Value, mskK W js 0 ρ fun ρ1 => setsK S (fr x) ρ1 fun ρ2 =>
      body (fun ρ' ds' h' => ds' = ds ∧ ∃ y, inv y ∧ μ y < μ x ∧ agreeE ρ' S (fr y) ∧ Ent h' (hp y) ∧ mskK W (fun _ => undef) 0 ρ' fun l' => mskK W (fun _ => undef) 0 ρ fun l => l' = l) X Rt ρ2 ds (hp x)

/-- What holds behind a region whose order is drawn, told once for all its orders. -/
def cutK (K : Kont) (ρ : List Value) (ds : List Deferred) (body : Kont → Prop) : Prop :=
  ∃ (W : List (Option Nat)) (S : List Nat) (α : Type) (inv : α → Prop) (fr : α → List Value) (hp : α → Hp),
    body (fun ρ' ds' h' => ds' = ds ∧ ∃ y, inv y ∧ agreeE ρ' S (fr y) ∧ Ent h' (hp y) ∧ mskK W (fun _ => undef) 0 ρ' fun l' => mskK W (fun _ => undef) 0 ρ fun l => l' = l) ∧
    ∀ x, inv x → ∀ js : Nat → Value, mskK W js 0 ρ fun ρ1 => setsK S (fr x) ρ1 fun ρ2 => K ρ2 ds (hp x)

theorem cutK_sound {K : Kont} {ρ : List Value} {ds : List Deferred} {body : Kont → Prop} (h : cutK K ρ ds body) : ∃ K' : Kont, body K' ∧ ∀ ρ' ds' h', K' ρ' ds' h' → ∃ h2, Ent h' h2 ∧ K ρ' ds' h2 := by
  obtain ⟨W, S, α, inv, fr, hp, hb, hc⟩ := h
  refine ⟨_, hb, fun ρ' ds' h' hK => ?_⟩
  obtain ⟨rfl, y, hy, hag, hent, hmask⟩ := hK
  have hm1 := mskK_sound _ _ _ _ _ hmask
  have hm2 := mskK_sound _ _ _ _ _ hm1.2
  have hE := (mskK_sound _ _ _ _ _ (hc y hy (valM W ρ'))).2
  rw [setsK_eq, mskL_same W 0 ρ ρ' hm2.1 hm2.2, setsL_agree S _ ρ' hag] at hE
  exact ⟨_, hent, hE⟩

def drawE (P : Program) (tab : Tab) (R : Rd) (ops : List Oper) (N : Kont) (hR : Hp) : OT → Kont
  | .cut t => fun ρ ds hE => cutK (fun ρ' ds' h' => apHK h' (fun h2 => N ρ' ds' h2) hR) ρ ds fun K' => vcT P tab (RH R hR) ops K' (fun _ _ _ _ => False) t ρ ds hE
  | t => vcT P tab (RH R hR) ops (fun ρ' ds' h' => apHK h' (fun h2 => N ρ' ds' h2) hR) (fun o ρ' ds' h' => apHK h' (fun h2 => vcOp P tab R ops o ρ' ds' h2 N) hR) t
def OT.core : OT → OT
  | .cut t => t
  | t => t

def vcC (P : Program) (tab : Tab) (R : Rd) : Code → Kont → (Nat → Kont) → Kont → Kont
  | .skip, N, _, _ => N
  | .label _, N, _, _ => N
  | .region _ ops draw, N, _, _ => fun ρ ds h => (match draw with
    | false => vcOps P tab R ops.toList N ops.toList ρ ds h
    | true => ∃ (is : List Nat) (t : OT), chkR ops t.core = true ∧ pickK is h fun hR hE => drawE P tab R ops.toList N hR t ρ ds hE)
  | .seq a b, N, X, Rt => fun ρ ds h => vcC P tab R a (fun ρ' ds' h' => vcC P tab R b N X Rt ρ' ds' h') X Rt ρ ds h
  | .cond c a b, N, X, Rt => fun ρ ds h => evK ρ c fun v => (match v with
    | .bool t => (t = true → vcC P tab R a N X Rt ρ ds h) ∧ (t = false → vcC P tab R b N X Rt ρ ds h)
    | _ => False)
  | .block id c, N, X, Rt => vcC P tab R c N (fun i => match Nat.beq i id with | true => N | false => X i) Rt
  | .exit id, _, X, _ => X id
  | .ret, _, _, Rt => Rt
  | .loop body, _, X, Rt => fun ρ ds h => loopE (vcC P tab R body) ρ ds h X Rt
  | .rangeFunc f ps assign body, N, X, Rt => fun ρ ds h => ∀ w, Own h w → RSat R w → Apart R h → (Code.rangeFunc f ps assign body).wp P (fun e a' w' => ∃ ρ' ds' h', a' = act ρ' ds' ∧ Tr w h w' h' ∧ (match e with
      | .normal => N ρ' ds' h'
      | .exit i => X i ρ' ds' h'
      | .ret => Rt ρ' ds' h'
      | _ => False)) (act ρ ds) w
  | _, _, _, _ => fun _ _ _ => False

theorem vcC_sound {P : Program} (hm : P.follows .mixedOrders = true) {tab : Tab} (htab : TabOk P tab) {R : Rd} (c : Code) : ∀ {N : Kont} {X : Nat → Kont} {Rt : Kont} {ρ : List Value} {ds : List Deferred} {h : Hp} {w : World} {Q : Exit → Act → World → Prop}, Own h w → RSat R w → Apart R h →
    (∀ ρ' ds' h' w', N ρ' ds' h' → Tr w h w' h' → Q .normal (act ρ' ds') w') → (∀ i ρ' ds' h' w', X i ρ' ds' h' → Tr w h w' h' → Q (.exit i) (act ρ' ds') w') → (∀ ρ' ds' h' w', Rt ρ' ds' h' → Tr w h w' h' → Q .ret (act ρ' ds') w') →
    vcC P tab R c N X Rt ρ ds h → c.wp P Q (act ρ ds) w := by
  induction c with
  | skip => intro N X Rt ρ ds h w Q own hr ap hN hX hR hE; exact wp_skip (hN _ _ _ w hE (Tr.refl own))
  | label l => intro N X Rt ρ ds h w Q own hr ap hN hX hR hE; exact wp_label (hN _ _ _ w hE (Tr.refl own))
  | exit id => intro N X Rt ρ ds h w Q own hr ap hN hX hR hE; exact wp_exit (hX _ _ _ _ w hE (Tr.refl own))
  | ret => intro N X Rt ρ ds h w Q own hr ap hN hX hR hE; exact wp_ret (hR _ _ _ w hE (Tr.refl own))
  | region id ops draw =>
    intro N X Rt ρ ds h w Q own hr ap hN hX hR hE
    obtain ⟨l⟩ := ops
    unfold vcC at hE
    cases draw with
    | false => exact wp_region_lit (vcOps_sound htab l own hr ap hN hE)
    | true =>
      obtain ⟨is, t, hc, hE⟩ := hE
      obtain ⟨hR', hE', hp, hE⟩ := pickK_sound _ _ _ hE
      have hp2 : h.Perm (hE' ++ hR') := hp.trans List.perm_append_comm
      have own2 := own.perm hp2
      have ap2 := ap.perm hp2
      have hrd : RSat (RH R hR') w := fun a v hv => by
        rcases hv with hv | ⟨x, hx, hcx⟩
        · exact hr a v hv
        · exact HA.cell_sound (own2.all x (List.mem_append_right _ hx)) hcx
      by_cases hcut : ∃ t', t = .cut t'
      · obtain ⟨t, rfl⟩ := hcut
        have hE : cutK (fun ρ' ds' h' => apHK h' (fun h2 => N ρ' ds' h2) hR') ρ ds (fun K' => vcT P tab (RH R hR') l K' (fun _ _ _ _ => False) t ρ ds hE') := hE
        obtain ⟨K', hE, hK'⟩ := cutK_sound hE
        refine wp_draw hm htab hc own2.left hrd (ap2.rh own2) (fun ρ' ds' h' w' hK ht => ?_) (fun i o ρ' ds' h' w' ho hK ht => False.elim hK) hE
        obtain ⟨h2, hent, hK⟩ := hK' _ _ _ hK
        rw [apHK_eq] at hK
        exact hN _ _ _ w' hK ((Tr.refl own).frame hp2 (ht.ent hent))
      · have hcore : OT.core t = t ∧ drawE P tab R l N hR' t = vcT P tab (RH R hR') l (fun ρ' ds' h' => apHK h' (fun h2 => N ρ' ds' h2) hR') (fun o ρ' ds' h' => apHK h' (fun h2 => vcOp P tab R l o ρ' ds' h2 N) hR') t := by
          cases t <;> first | exact ⟨rfl, rfl⟩ | exact absurd ⟨_, rfl⟩ hcut
        rw [hcore.1] at hc
        have hE : drawE P tab R l N hR' t ρ ds hE' := hE
        rw [hcore.2] at hE
        refine wp_draw hm htab hc own2.left hrd (ap2.rh own2) (fun ρ' ds' h' w' hK ht => ?_) (fun i o ρ' ds' h' w' ho hK ht => ?_) hE
        · rw [apHK_eq] at hK
          exact hN _ _ _ w' hK ((Tr.refl own).frame hp2 ht)
        · rw [apHK_eq] at hK
          have htt := (Tr.refl own).frame hp2 ht
          exact vcOp_wpOp htab htt.own (hr.tr ap htt) (Apart.tr hr ap htt) ho (fun ρ2 ds2 h2 w2 hK2 ht2 => hN _ _ _ w2 hK2 (htt.trans ht2)) hK
  | seq a b iha ihb =>
    intro N X Rt ρ ds h w Q own hr ap hN hX hR hE
    refine wp_seq (iha own hr ap (fun ρ' ds' h' w' hK ht => ?_) hX hR hE)
    exact ihb ht.own (hr.tr ap ht) (Apart.tr hr ap ht) (fun ρ2 ds2 h2 w2 hK2 ht2 => hN _ _ _ w2 hK2 (ht.trans ht2)) (fun i ρ2 ds2 h2 w2 hK2 ht2 => hX i _ _ _ w2 hK2 (ht.trans ht2)) (fun ρ2 ds2 h2 w2 hK2 ht2 => hR _ _ _ w2 hK2 (ht.trans ht2)) hK
  | cond x a b iha ihb =>
    intro N X Rt ρ ds h w Q own hr ap hN hX hR hE
    unfold vcC at hE
    rw [evK_eq] at hE
    split at hE <;> first | exact hE.elim | skip
    rename_i t hx
    refine wp_cond_split (t := t) (by rw [act_eval]; exact hx) (fun ht => iha own hr ap hN hX hR (hE.1 ht)) (fun ht => ihb own hr ap hN hX hR (hE.2 ht))
  | block id c ih =>
    intro N X Rt ρ ds h w Q own hr ap hN hX hR hE
    refine wp_block (ih own hr ap hN (fun i ρ' ds' h' w' hK ht => ?_) hR hE)
    simp only [Exit.inBlock]
    by_cases hi : i = id
    · rw [if_pos hi]
      subst hi
      have hb : Nat.beq i i = true := Nat.beq_refl i
      rw [hb] at hK
      exact hN _ _ _ w' hK ht
    · rw [if_neg hi]
      have hb : Nat.beq i id = false := by
        cases hb : Nat.beq i id
        · rfl
        · exact absurd (Nat.eq_of_beq_eq_true hb) hi
      rw [hb] at hK
      exact hX i _ _ _ w' hK ht
  | loop body ih =>
    intro N X Rt ρ ds h w Q own hr ap hN hX hR hE
    obtain ⟨W, S, α, inv, fr, hp, μ, x0, h0, hag, hent, hround⟩ := hE
    have hasc : ascM W 0 ρ := (mskK_sound _ _ _ _ _ (hround x0 h0 (fun _ => undef))).1
    refine wp_loop_ghost (fun n a w' => ∃ x js, inv x ∧ μ x = n ∧ a = act (setsL S (fr x) (mskL W js ρ)) ds ∧ Tr w h w' (hp x)) (μ x0) ⟨x0, valM W ρ, h0, rfl, ?_, (Tr.refl own).ent hent⟩ ?_
    · rw [mskL_same W 0 ρ ρ hasc rfl, setsL_agree S _ ρ hag]
    · rintro n a w1 ⟨x, js, hx, rfl, rfl, ht⟩
      have hE := (mskK_sound _ _ _ _ _ (hround x hx js)).2
      rw [setsK_eq] at hE
      refine ih ht.own (hr.tr ap ht) (Apart.tr hr ap ht) (fun ρ' ds' h' w' hK ht2 => ?_) (fun i ρ2 ds2 h2 w2 hK2 ht2 => hX i _ _ _ w2 hK2 (ht.trans ht2)) (fun ρ2 ds2 h2 w2 hK2 ht2 => hR _ _ _ w2 hK2 (ht.trans ht2)) hE
      obtain ⟨rfl, y, hy, hlt, hag', hent', hmask⟩ := hK
      have hmask := (mskK_sound _ _ _ _ _ (mskK_sound _ _ _ _ _ hmask).2).2
      refine ⟨μ y, hlt, y, valM W ρ', hy, rfl, ?_, (ht.trans ht2).ent hent'⟩
      rw [mskL_same W 0 ρ ρ' hasc hmask, setsL_agree S _ ρ' hag']
  | rangeFunc f ps assign body =>
    intro N X Rt ρ ds h w Q own hr ap hN hX hR hE
    refine Code.wp_mono (fun e a' w' hq => ?_) (hE w own hr ap)
    obtain ⟨ρ', ds', h', rfl, ht, hq⟩ := hq
    cases e <;> first | exact False.elim hq | exact hN _ _ _ w' hq ht | exact hX _ _ _ _ w' hq ht | exact hR _ _ _ w' hq ht
  | _ => intro N X Rt ρ ds h w Q own hr ap hN hX hR hE; exact False.elim hE

/-! ### functions -/
def iniK : Nat → List Value → (List Value → Prop) → Prop
  | 0, _, K => K []
  | n + 1, [], K => iniK n [] fun l => K (undef :: l)
  | n + 1, a :: as, K => iniK n as fun l => K (a :: l)
theorem iniK_eq : ∀ (n : Nat) (args : List Value) (K : List Value → Prop), args.length ≤ n → iniK n args K = K (args ++ List.replicate (n - args.length) undef)
  | 0, args, K, h => by
    have : args = [] := List.eq_nil_of_length_eq_zero (by omega)
    subst this; rfl
  | n + 1, [], K, _ => by
    rw [iniK, iniK_eq n [] _ (by simp)]
    simp [List.replicate_succ]
  | n + 1, a :: as, K, h => by
    rw [iniK, iniK_eq n as _ (by simpa using h)]
    simp

def resK (tab : Tab) (R : Rd) (ρ : List Value) : List ResultVar → (List Value → Prop) → Prop
  | [], K => K []
  | .tmp t :: r, K => gtK (fun v => resK tab R ρ r fun l => K (v :: l)) ρ t
  | .cell a T :: r, K => gtK (fun p => (match p, lk tab T with
    | .pointer (some ad), some ti => (match ti.kind.agg with
      | true => ∃ vs, RdN R ad vs ∧ vs.length = ti.size ∧ resK tab R ρ r fun l => K (.agg ⟨vs⟩ :: l)
      | false => ∃ v, R ad v ∧ resK tab R ρ r fun l => K (v :: l))
    | _, _ => False)) ρ a

def retV : List Value → Value
  | [v] => v
  | l => .tuple ⟨l⟩

def resOne (g : Nat → Value) : ResultVar → Sem Value
  | .tmp t => pure (g t)
  | .cell a t => do loadVar t (← asAddr (g a))

theorem resK_sound {P : Program} {tab : Tab} (htab : TabOk P tab) {R : Rd} {ρ : List Value} {w : World} (hr : RSat R w) : ∀ (l : List ResultVar) (K : List Value → Prop), resK tab R ρ l K →
    ∃ vs, (l.mapM (resOne (gt ρ))).run P w = .ok vs w ∧ K vs
  | [], K, h => ⟨[], by simp, h⟩
  | .tmp t :: r, K, h => by
    unfold resK at h
    rw [gtK_eq] at h
    obtain ⟨vs, h1, h2⟩ := resK_sound htab hr r _ h
    refine ⟨_ :: vs, ?_, h2⟩
    simp only [List.mapM_cons, Sem.run_bind, resOne, Sem.run_pure, Result.andThen_ok, h1]
  | .cell a T :: r, K, h => by
    unfold resK at h
    rw [gtK_eq] at h
    split at h <;> first | exact h.elim | skip
    rename_i ad ti hp hti
    split at h
    · rename_i hk
      obtain ⟨vs, a1, a2, h⟩ := h
      obtain ⟨us, h1, h2⟩ := resK_sound htab hr r _ h
      refine ⟨_ :: us, ?_, h2⟩
      have : (resOne (gt ρ) (.cell a T)).run P w = .ok (.agg ⟨vs⟩) w := by
        simp only [resOne, Sem.run_bind, hp, asAddr, Sem.run_pure, Result.andThen_ok, run_loadVar_agg hr (lk_ok htab hti) hk a1 a2]
      simp only [List.mapM_cons, Sem.run_bind, Sem.run_pure, Result.andThen_ok, this, h1]
    · rename_i hk
      obtain ⟨v, a1, h⟩ := h
      obtain ⟨us, h1, h2⟩ := resK_sound htab hr r _ h
      refine ⟨_ :: us, ?_, h2⟩
      have : (resOne (gt ρ) (.cell a T)).run P w = .ok v w := by
        simp only [resOne, Sem.run_bind, hp, asAddr, Sem.run_pure, Result.andThen_ok, run_loadVar_one hr (lk_ok htab hti) hk a1]
      simp only [List.mapM_cons, Sem.run_bind, Sem.run_pure, Result.andThen_ok, this, h1]

theorem run_results {P : Program} {tab : Tab} (htab : TabOk P tab) {R : Rd} {ρ : List Value} {w : World} (hr : RSat R w) {fn : Func} {K : List Value → Prop} (h : resK tab R ρ fn.results.toList K) : ∃ vs, (results fn ρ.toArray).run P w = .ok (retV vs) w ∧ K vs := by
  obtain ⟨vs, h1, h2⟩ := resK_sound (P := P) htab hr _ _ h
  refine ⟨vs, ?_, h2⟩
  have e : results fn ρ.toArray = (do let vs ← fn.results.mapM (resOne (gt ρ)); pure (if h : vs.size = 1 then vs[0] else .tuple vs)) := by
    unfold results
    congr 2
    funext r
    cases r <;> simp only [resOne, gt_eq]
  rw [e, Array.mapM_eq_mapM_toList]
  simp only [Sem.run_bind, Sem.run_map, h1, Result.andThen_ok, Sem.run_pure]
  match vs with
  | [] => rfl
  | [v] => rfl
  | _ :: _ :: _ => rfl

/-- The deferred calls of a frame that returns, and then its results. -/
def runD (P : Program) (R : Rd) (K : Hp → Prop) : List Deferred → Hp → Prop
  | [], h => K h
  | d :: ds, h => (match d.target with
    | .fn (.func f) cap => ∃ is : List Nat, pickK is h fun hs rest => ∃ Post : Hp → Prop, FnD P f (d.args.toList ++ cap.toList) hs (RH R rest) Post ∧ ∀ h', Post h' → ∃ h2, Ent (rest ++ h') h2 ∧ runD P R K ds h2
    | _ => False)

theorem runD_sound {P : Program} {tab : Tab} (htab : TabOk P tab) {R : Rd} {ρ : List Value} {fn : Func} {w0 : World} {h0 : Hp} {Post : Value → Hp → Prop} : ∀ (ds : List Deferred) (h : Hp) (w : World), Tr w0 h0 w h → RSat R w → Apart R h →
    runD P R (fun h => resK tab (RH R h) ρ fn.results.toList fun l => ∃ h', Ent h h' ∧ Post (retV l) h') ds h → Leaves P fn ρ.toArray (FnPost w0 h0 Post) ds .returning w
  | [], h, w, ht, hr, ap, hE => by
    obtain ⟨vs, h1, h', he, hp⟩ := run_results (P := P) htab (hr.rh ht.own) hE
    exact ⟨_, h1, _, h', rfl, hp, ht.ent he⟩
  | d :: ds, h, w, ht, hr, ap, hE => by
    obtain ⟨target, dargs⟩ := d
    unfold runD at hE
    split at hE <;> first | exact hE.elim | skip
    rename_i f cap htar
    simp only at htar; subst htar
    obtain ⟨is, hE⟩ := hE
    obtain ⟨hs, rest, hp, Post', hF, hK⟩ := pickK_sound _ _ _ hE
    have own2 := ht.own.perm hp
    have ap2 := ap.perm hp
    have hrun : (invoke (.fn (.func f) cap) dargs).run P w = .ok (.enter f (dargs.toList ++ cap.toList).toArray) w := by
      have : (dargs ++ cap) = (dargs.toList ++ cap.toList).toArray := by apply Array.ext'; simp
      simp only [invoke, this]
      exact run_callFunc_of hF.1 _ w
    refine leaves_cons (by simp) hrun ((hF.2 w own2.left (fun a v hv => ?_) (ap2.rh own2)).mono fun e u' w' he => ?_)
    · rcases hv with hv | ⟨x, hx, hc⟩
      · exact hr a v hv
      · exact HA.cell_sound (own2.all x (List.mem_append_right _ hx)) hc
    · obtain ⟨rfl, v, h', rfl, hq, ht'⟩ := he
      obtain ⟨h2, hent, hk⟩ := hK h' hq
      have htt := ((Tr.refl ht.own).frame hp ht').ent hent
      exact runD_sound htab ds _ w' (ht.trans htt) (hr.tr ap htt) (Apart.tr hr ap htt) hk

def retE (P : Program) (tab : Tab) (R : Rd) (rs : List ResultVar) (Post : Value → Hp → Prop) : Kont :=
  fun ρ ds h => runD P R (fun h => resK tab (RH R h) ρ rs fun l => ∃ h', Ent h h' ∧ Post (retV l) h') ds h

/-- THE CONTRACT OF A FUNCTION OUT OF ITS FORMULA. -/
theorem fn_of_vc {P : Program} (hm : P.follows .mixedOrders = true) {tab : Tab} (htab : TabOk P tab) {f : FuncId} {fn : Func} {c : Code} (hf : P.funcs[f]? = some fn) (hb : fn.body = some c) (hname : (fn.name == "runtime.NumGoroutine") = false)
    {args : List Value} {h : Hp} {R : Rd} {Post : Value → Hp → Prop} (hl : args.length ≤ fn.ntmps)
    (hvc : iniK fn.ntmps args fun ρ => vcC P tab R c (retE P tab R fn.results.toList Post) (fun _ _ _ _ => False) (retE P tab R fn.results.toList Post) ρ [] h) : Fn P f args h R Post := by
  refine ⟨⟨fn, hf, by simp [hb], hname⟩, fun w own hr ap => ?_⟩
  rw [iniK_eq _ _ _ hl] at hvc
  refine calls_of_wp_defers hf hb ?_
  have e : (args.toArray ++ Array.replicate (fn.ntmps - args.toArray.size) undef) = (args ++ List.replicate (fn.ntmps - args.length) undef).toArray := by
    apply Array.ext'; simp
  rw [e]
  refine vcC_sound hm htab c own hr ap (fun ρ ds h' w' hK ht => ?_) (fun i ρ ds h' w' hK _ => False.elim hK) (fun ρ ds h' w' hK ht => ?_) hvc
  · exact runD_sound htab ds h' w' ht (hr.tr ap ht) (Apart.tr hr ap ht) hK
  · exact runD_sound htab ds h' w' ht (hr.tr ap ht) (Apart.tr hr ap ht) hK

/-- The same of a function that is called by a 'defer' and defers nothing. -/
theorem fnD_of_vc {P : Program} (hm : P.follows .mixedOrders = true) {tab : Tab} (htab : TabOk P tab) {f : FuncId} {fn : Func} {c : Code} (hf : P.funcs[f]? = some fn) (hb : fn.body = some c) (hname : (fn.name == "runtime.NumGoroutine") = false)
    {args : List Value} {h : Hp} {R : Rd} {Post : Hp → Prop} (hl : args.length ≤ fn.ntmps) (hres : fn.results = #[])
    (hvc : iniK fn.ntmps args fun ρ => vcC P tab R c (fun _ ds h => ds = [] ∧ ∃ h', Ent h h' ∧ Post h') (fun _ _ _ _ => False) (fun _ ds h => ds = [] ∧ ∃ h', Ent h h' ∧ Post h') ρ [] h) : FnD P f args h R Post := by
  refine ⟨⟨fn, hf, by simp [hb], hname⟩, fun w own hr ap => ?_⟩
  rw [iniK_eq _ _ _ hl] at hvc
  refine callsD_of_wp hf hb ?_
  have e : (args.toArray ++ Array.replicate (fn.ntmps - args.toArray.size) undef) = (args ++ List.replicate (fn.ntmps - args.length) undef).toArray := by
    apply Array.ext'; simp
  rw [e]
  refine vcC_sound hm htab c own hr ap (fun ρ ds h' w' hK ht => ?_) (fun i ρ ds h' w' hK _ => False.elim hK) (fun ρ ds h' w' hK ht => ?_) hvc
  · obtain ⟨rfl, h2, he, hp⟩ := hK
    exact ⟨rfl, .tuple #[], by simp [results, hres], .tuple #[], h2, rfl, hp, ht.ent he⟩
  · obtain ⟨rfl, h2, he, hp⟩ := hK
    exact ⟨rfl, .tuple #[], by simp [results, hres], .tuple #[], h2, rfl, hp, ht.ent he⟩

end Go.Proofs.YtgnmbgbiajgpeaaDoor

namespace Go.Proofs.YtgnmbgbiajgpeaaDoor
open Go Go.RowKit

theorem wr_i64 {z x : Int} (h : z = IntKind.i64.wrap x) (h1 : -9223372036854775808 ≤ x) (h2 : x ≤ 9223372036854775807) : z = x := by rw [h, IntKind.wrap_i64]; omega
theorem wr_u64 {z x : Int} (h : z = IntKind.u64.wrap x) (h1 : 0 ≤ x) (h2 : x ≤ 18446744073709551615) : z = x := by rw [h, IntKind.wrap_u64]; omega
theorem wr_u32 {z x : Int} (h : z = IntKind.u32.wrap x) (h1 : 0 ≤ x) (h2 : x ≤ 4294967295) : z = x := by rw [h, IntKind.wrap_u32]; omega
theorem wr_u8 {z x : Int} (h : z = IntKind.u8.wrap x) (h1 : 0 ≤ x) (h2 : x ≤ 255) : z = x := by rw [h, IntKind.wrap_u8]; omega
theorem maxLen_eq : maxLen = 9223372036854775807 := by simp [maxLen]
theorem shr_7 {z : Int} {m : Nat} (h : z = (m : Int).fdiv (2 ^ min (Int.toNat 7) IntKind.u64.bits)) : z = ((m / 128 : Nat) : Int) := by
  have e : ((2 : Int) ^ min (Int.toNat 7) IntKind.u64.bits) = 128 := by simp [IntKind.bits]
  rw [h, e, Int.fdiv_eq_ediv_of_nonneg _ (by omega)]
  omega

/-- Bytes as cells. -/
def BV (l : List UInt8) : List Value := l.map fun b => .int .u8 b.toNat
theorem BV_append (a b : List UInt8) : BV (a ++ b) = BV a ++ BV b := by simp [BV]
theorem BV_length (l : List UInt8) : (BV l).length = l.length := by simp [BV]
theorem BV_one (l : List UInt8) : allOne (BV l) = true := allOne_of fun u hu => by
  obtain ⟨b, _, rfl⟩ := List.mem_map.1 hu; rfl
theorem BV_get {l : List UInt8} {j : Nat} {b : UInt8} (h : l[j]? = some b) : (BV l)[j]? = some (.int .u8 b.toNat) := by simp [BV, h]
theorem BV_inj : ∀ {a b : List UInt8}, BV a = BV b → a = b
  | [], [], _ => rfl
  | [], _ :: _, h => by simp [BV] at h
  | _ :: _, [], h => by simp [BV] at h
  | x :: a, y :: b, h => by
    simp only [BV, List.map_cons, List.cons.injEq, Value.int.injEq, true_and] at h
    have : x = y := UInt8.toNat.inj (by omega)
    rw [this, BV_inj (a := a) (b := b) h.2]
theorem byte_of {z : Int} (h0 : 0 ≤ z) (h1 : z ≤ 255) : z = ((UInt8.ofNat z.toNat).toNat : Int) := by
  simp only [UInt8.toNat_ofNat']
  omega
theorem BV_singleton {z : Int} (h0 : 0 ≤ z) (h1 : z ≤ 255) : [Value.int .u8 z] = BV [UInt8.ofNat z.toNat] := by
  simp only [BV, List.map_cons, List.map_nil]
  rw [← byte_of h0 h1]

/-- a cell of a known block -/
theorem ld {R : Rd} {h : Hp} (i : Nat) {g : Nat} {t : TypeId} {cs : List Value} {o : Nat} {v : Value} (hi : h[i]? = some (.blk g t cs)) (hc : cs[o]? = some v) : RH R h ⟨g, o, .none⟩ v :=
  .inr ⟨_, List.mem_of_getElem? hi, rfl, rfl, hc⟩
/-- a cell of a row of the call's own -/
theorem ldr {R : Rd} {h : Hp} (i : Nat) {g : Nat} {n cap : Nat} {e : TypeId} {sz : Nat} {xs : List Value} {fz : Nat × Nat} {o : Nat} {v : Value} (hi : h[i]? = some (.row (some ⟨g, 0, .none⟩) n cap e sz xs fz)) (hc : xs[o]? = some v) : RH R h ⟨g, o, .none⟩ v :=
  .inr ⟨_, List.mem_of_getElem? hi, rfl, rfl, hc⟩
theorem ro {R : Rd} {h : Hp} {a : Addr} {v : Value} (hr : R a v) : RH R h a v := .inl hr

theorem add_zero_addr (g j : Nat) : (⟨g, 0, .none⟩ : Addr).add j = ⟨g, j, .none⟩ := by rw [addA_eq]; cases j <;> simp [addA]

/-- all cells of a row of the call's own -/
theorem rdRow {R : Rd} {h : Hp} (i : Nat) {g : Nat} {n cap : Nat} {e : TypeId} {sz : Nat} {xs : List Value} {fz : Nat × Nat} (hi : h[i]? = some (.row (some ⟨g, 0, .none⟩) n cap e sz xs fz)) :
    ∀ j u, xs[j]? = some u → ∃ a, (some (⟨g, 0, .none⟩ : Addr)) = some a ∧ RH R h (a.add j) u := fun j u hu =>
  ⟨_, rfl, by rw [add_zero_addr]; exact ldr i hi hu⟩

/-- A slice value that reads as these cells ('sz' cells an element, 'n' elements). -/
def SlR (R : Rd) (sz : Nat) (v : Value) (n : Nat) (xs : List Value) : Prop :=
  xs.length = n * sz ∧ ∃ A cap, v = .slice A n cap ∧ ∀ j u, xs[j]? = some u → ∃ a, A = some a ∧ R (a.add j) u
theorem SlR.mono {R R' : Rd} {sz n : Nat} {v : Value} {xs : List Value} (h : SlR R sz v n xs) (hr : ∀ a v, R a v → R' a v) : SlR R' sz v n xs := by
  obtain ⟨hl, A, cap, rfl, h⟩ := h
  exact ⟨hl, A, cap, rfl, fun j u hu => by obtain ⟨a, ha, hR⟩ := h j u hu; exact ⟨a, ha, hr _ _ hR⟩⟩
theorem SlR.rh {R : Rd} {sz n : Nat} {v : Value} {xs : List Value} (h : SlR R sz v n xs) (hp : Hp) : SlR (RH R hp) sz v n xs := h.mono fun _ _ => .inl

/-- Bytes that can be read. -/
def BsR (R : Rd) (v : Value) (l : List UInt8) : Prop := SlR R 1 v l.length (BV l)
theorem BsR.rh {R : Rd} {v : Value} {l : List UInt8} (h : BsR R v l) (hp : Hp) : BsR (RH R hp) v l := SlR.rh h hp

/-- A slice of the call's own, and the memory that it has. -/
def OwnS (e : TypeId) (sz : Nat) (v : Value) (n : Nat) (cells : List Value) (h : Hp) : Prop :=
  ∃ A cap, v = .slice A n cap ∧ h = [.row A n cap e sz cells (0, 0)] ∧ grow n A

theorem growA {n : Nat} {A : Option Addr} (h : grow n A) (hn : 0 < n) : ∃ g, A = some ⟨g, 0, .none⟩ := by
  rcases h with h | h
  · omega
  · exact h

/-- The row of a slice of the call's own can be read. -/
theorem SlR.own {R : Rd} {h : Hp} (i : Nat) {A : Option Addr} {n cap : Nat} {e : TypeId} {sz : Nat} {xs : List Value} {fz : Nat × Nat} (hi : h[i]? = some (.row A n cap e sz xs fz)) (hl : xs.length = n * sz) (hg : grow n A) : SlR (RH R h) sz (.slice A n cap) n xs := by
  refine ⟨hl, A, cap, rfl, fun j u hu => ?_⟩
  have hlt := (List.getElem?_eq_some_iff.1 hu).1
  have hn : 0 < n := by
    rcases Nat.eq_zero_or_pos n with h0 | h0
    · subst h0; omega
    · exact h0
  obtain ⟨g, rfl⟩ := growA hg hn
  exact ⟨_, rfl, by rw [add_zero_addr]; exact ldr i hi hu⟩

/-- The order of the text, all operations. -/
def lexT : Nat → Nat → OT
  | _, 0 => .nil
  | k, n + 1 => .q k (lexT (k + 1) n)

theorem bor128 : ∀ x : Nat, x < 256 → bitsOp .or .u8 (x : Int) 128 = ((x % 128 + 128 : Nat) : Int) := by
  intro x hx
  have h : ∀ x : Fin 256, bitsOp .or .u8 (x.val : Int) 128 = ((x.val % 128 + 128 : Nat) : Int) := by decide +kernel
  exact h ⟨x, hx⟩

theorem ld1 {R : Rd} {a : Addr} {i : Nat} {v : Value} (h : R (a.add i) v) : R (addA a (Int.toNat (i : Int) * 1)) v := by
  rw [show Int.toNat (i : Int) * 1 = i by simp, ← addA_eq]
  exact h

/-- the byte at an index of a slice that is read -/
theorem BsR.at_ {R : Rd} {A : Option Addr} {n cap : Nat} {l : List UInt8} (h : BsR R (.slice A n cap) l) {i : Nat} {b : UInt8} (hb : l[i]? = some b) : ∃ a, A = some a ∧ R (a.add i) (.int .u8 b.toNat) := by
  obtain ⟨_, A', cap', hv, hr⟩ := h
  cases hv
  exact hr i _ (BV_get hb)

theorem BsR.form {R : Rd} {v : Value} {l : List UInt8} (h : BsR R v l) : ∃ A cap, v = .slice A l.length cap := by
  obtain ⟨_, A, cap, rfl, _⟩ := h
  exact ⟨A, cap, rfl⟩

theorem BsR.src {R : Rd} {A : Option Addr} {n cap : Nat} {l : List UInt8} (h : BsR R (.slice A n cap) l) : ∀ j u, (BV l)[j]? = some u → ∃ a, A = some a ∧ R (a.add j) u := by
  obtain ⟨_, A', cap', hv, hr⟩ := h
  cases hv
  exact hr

theorem take_succ_eq {α : Type} {x y : List α} {i : Nat} (h : x.take i = y.take i) {b : α} (hx : x[i]? = some b) (hy : y[i]? = some b) : x.take (i + 1) = y.take (i + 1) := by
  rw [List.take_add_one, List.take_add_one, h, hx, hy]

theorem eq_of_take {α : Type} {x y : List α} (hl : x.length = y.length) (h : x.take x.length = y.take x.length) : x = y := by
  rw [List.take_length] at h
  rw [h, hl, List.take_length]

/-- a cell of a row of the call's own, at a computed index -/
theorem ldr1 {R : Rd} {h : Hp} (j : Nat) {g : Nat} {n cap : Nat} {e : TypeId} {sz : Nat} {xs : List Value} {fz : Nat × Nat} {i : Nat} {v : Value} (hi : h[j]? = some (.row (some ⟨g, 0, .none⟩) n cap e sz xs fz)) (hc : xs[i]? = some v) :
    RH R h (addA ⟨g, 0, .none⟩ (Int.toNat (i : Int) * 1)) v := by
  rw [show Int.toNat (i : Int) * 1 = i by simp, ← addA_eq, add_zero_addr]
  exact ldr j hi hc

theorem band127 (x : Nat) (hx : x < 256) : bitsOp .and .u8 (x : Int) 127 = ((x % 128 : Nat) : Int) := by
  have h : ∀ x : Fin 256, bitsOp .and .u8 (x.val : Int) 127 = ((x.val % 128 : Nat) : Int) := by decide +kernel
  exact h ⟨x, hx⟩

theorem bor_u64 {a b : Nat} (ha : a < 18446744073709551616) (hb : b < 18446744073709551616) : bitsOp .or .u64 (a : Int) (b : Int) = ((a ||| b : Nat) : Int) := by
  have hlt : (a ||| b) < 2 ^ 64 := Nat.or_lt_two_pow (by omega) (by omega)
  have e1 : (BitVec.ofInt 64 (a : Int)) = BitVec.ofNat 64 a := by simp
  have e2 : (BitVec.ofInt 64 (b : Int)) = BitVec.ofNat 64 b := by simp
  show IntKind.u64.wrap ((BitVec.ofInt 64 (a : Int) ||| BitVec.ofInt 64 (b : Int)).toNat : Int) = _
  rw [e1, e2, BitVec.toNat_or, BitVec.toNat_ofNat, BitVec.toNat_ofNat, Nat.mod_eq_of_lt (by omega), Nat.mod_eq_of_lt (by omega), IntKind.wrap_u64]
  omega

theorem or_disjoint {a c i : Nat} (h : a < 2 ^ i) : a ||| (c * 2 ^ i) = a + c * 2 ^ i := by
  rw [Nat.or_comm, Nat.mul_comm, ← Nat.two_pow_add_eq_or_of_lt h, Nat.add_comm]

theorem callable {P : Program} {f : FuncId} {fn : Func} (hf : P.funcs[f]? = some fn) (hb : fn.body.isNone = false) (hn : (fn.name == "runtime.NumGoroutine") = false) : Callable P f := ⟨fn, hf, hb, hn⟩
/-- What follows from the memory at hand may be used. -/
theorem fn_pure {P : Program} {f : FuncId} {args : List Value} {h : Hp} {R : Rd} {Post : Value → Hp → Prop} {p : Prop} (hc : Callable P f) (hp : ∀ w, Own h w → p) (hF : p → Fn P f args h R Post) : Fn P f args h R Post :=
  ⟨hc, fun w o r a => (hF (hp w o)).2 w o r a⟩
theorem row_cap {h : Hp} {w : World} (o : Own h w) (i : Nat) {A : Option Addr} {n cap : Nat} {e : TypeId} {sz : Nat} {xs : List Value} {fz : Nat × Nat} (hi : h[i]? = some (.row A n cap e sz xs fz)) : n ≤ cap ∧ cap ≤ maxLen :=
  let h := o.all _ (List.mem_of_getElem? hi)
  ⟨h.2.1, h.2.2.1⟩

/-- A part of a row of the call's own can be read. -/
theorem sub_src {R : Rd} {h : Hp} (i : Nat) {A : Option Addr} {k cap : Nat} {e : TypeId} {xs : List Value} {fz : Nat × Nat} {o n : Nat} (hi : h[i]? = some (.row A k cap e 1 xs fz)) (hl : xs.length = k) (ho : o + n ≤ k) (hc : k ≤ cap) (hg : grow k A) :
    ∀ j u, ((xs.drop o).take n)[j]? = some u → ∃ a, sliceBase A cap o 1 = some a ∧ RH R h (a.add j) u := by
  intro j u hu
  have hj : j < n := by
    rcases Nat.lt_or_ge j n with h | h
    · exact h
    · rw [List.getElem?_eq_none (by simp; omega)] at hu; cases hu
  rw [List.getElem?_take_of_lt hj, List.getElem?_drop] at hu
  obtain ⟨g, rfl⟩ := growA hg (by omega)
  refine ⟨_, by rw [sliceBase, if_neg (by omega), Option.map_some], ?_⟩
  rw [add_zero_addr]
  have e : (⟨g, o * 1, .none⟩ : Addr).add j = ⟨g, o + j, .none⟩ := by
    rw [addA_eq]; cases j <;> simp [addA]
  rw [e]
  exact ldr i hi hu

theorem BsR.own {R : Rd} {h : Hp} (i : Nat) {A : Option Addr} {k cap : Nat} {e : TypeId} {xs : List Value} {fz : Nat × Nat} {bs : List UInt8} (hi : h[i]? = some (.row A k cap e 1 xs fz)) (hk : k = bs.length) (hx : xs = BV bs) (hg : grow k A) : BsR (RH R h) (.slice A k cap) bs := by
  subst hk hx
  exact SlR.own i hi (by rw [BV_length, Nat.mul_one]) hg

theorem BsR.nilv (R : Rd) : BsR R (.slice none 0 0) [] := ⟨rfl, none, 0, rfl, fun j u h => by simp [BV] at h⟩
theorem Ent.nil (h : Hp) : Ent h [] := fun w _ => ⟨Own.nil w, fun g hg => by simp [idsOf] at hg⟩

/-! ### what is known of the memory, said otherwise around a call -/
theorem Fn.ent {P : Program} {f : FuncId} {args : List Value} {h : Hp} {R : Rd} {Post Post' : Value → Hp → Prop} (c : Fn P f args h R Post) (hp : ∀ v h', Post v h' → ∃ h2, Ent h' h2 ∧ Post' v h2) : Fn P f args h R Post' :=
  ⟨c.1, fun w o r a => (c.2 w o r a).mono fun _ _ ⟨v, h', he, hq, t⟩ => by
    obtain ⟨h2, e, hq2⟩ := hp v h' hq
    exact ⟨v, h2, he, hq2, t.ent e⟩⟩
theorem Fn.pre {P : Program} {f : FuncId} {args : List Value} {h h0 : Hp} {R : Rd} {Post : Value → Hp → Prop} (e : Ent h h0) (c : Fn P f args h0 R Post) : Fn P f args h R Post :=
  ⟨c.1, fun w o r a => (c.2 w (e w o).1 r (fun ad v hv hm => a ad v hv ((e w o).2 _ hm))).mono fun _ _ ⟨v, h', he, hq, t⟩ =>
    ⟨v, h', he, hq, t.os, t.tape, t.output, t.size, fun k hk hn => t.keep k hk (fun hm => hn ((e w o).2 _ hm)), t.own, fun g hg => (t.fresh g hg).imp ((e w o).2 g) id⟩⟩
/-- The cells of a piece of memory. -/
def cellsOf (h : Hp) : Rd := fun a v => ∃ x ∈ h, x.cell a v
/-- Memory that is only read from now on. -/
theorem Ent.freeze (a b : Hp) : Ent (a ++ b) (a ++ [.ro (idsOf b) (cellsOf b)]) := fun w o => by
  have e : idsOf (a ++ [HA.ro (idsOf b) (cellsOf b)]) = idsOf (a ++ b) := by
    rw [idsOf_append, idsOf_append]; simp [idsOf, HA.ids]
  refine ⟨⟨fun x hx => ?_, by rw [e]; exact o.nd⟩, fun g hg => by rw [← e]; exact hg⟩
  rcases List.mem_append.1 hx with hx | hx
  · exact o.all x (List.mem_append_left _ hx)
  · rw [List.mem_singleton.1 hx]
    refine ⟨fun g hg => o.right.lt hg, fun ad v ⟨y, hy, hc⟩ => ?_⟩
    have hyw := o.all y (List.mem_append_right _ hy)
    exact ⟨mem_idsOf.2 ⟨y, hy, HA.cell_ids hyw hc⟩, HA.cell_sound hyw hc⟩
theorem Ent.app {a a' b b' : Hp} (h : Ent a a') (k : Ent b b') : Ent (a ++ b) (a' ++ b') := fun w o => by
  have h1 := h w o.left
  have k1 := k w o.right
  refine ⟨⟨fun x hx => ?_, ?_⟩, fun g hg => ?_⟩
  · rcases List.mem_append.1 hx with hx | hx
    · exact h1.1.all x hx
    · exact k1.1.all x hx
  · rw [idsOf_append]
    refine List.nodup_append.2 ⟨h1.1.nd, k1.1.nd, fun g hg g' hg' e => ?_⟩
    subst e
    exact o.disj (h1.2 g hg) (k1.2 g hg')
  · rw [idsOf_append] at hg ⊢
    rcases List.mem_append.1 hg with hg | hg
    · exact List.mem_append_left _ (h1.2 g hg)
    · exact List.mem_append_right _ (k1.2 g hg)
/-! ### the rows of many slices -/
theorem rows_ids (l : List RowD) : idsOf (l.map RowD.ha) = l.flatMap RowD.ids := by
  rw [idsOf, List.flatMap_map]; rfl
theorem Ent.rows_mk (l : List RowD) : Ent (l.map RowD.ha) [.rows l] := fun w o => by
  have e : idsOf [HA.rows l] = idsOf (l.map RowD.ha) := by rw [rows_ids]; simp [idsOf, HA.ids]
  refine ⟨⟨fun x hx => ?_, by rw [e]; exact o.nd⟩, fun g hg => by rw [← e]; exact hg⟩
  rw [List.mem_singleton.1 hx]
  exact fun r hr => o.all r.ha (List.mem_map.2 ⟨r, hr, rfl⟩)
theorem Ent.rows_un (l : List RowD) : Ent [.rows l] (l.map RowD.ha) := fun w o => by
  have e : idsOf [HA.rows l] = idsOf (l.map RowD.ha) := by rw [rows_ids]; simp [idsOf, HA.ids]
  refine ⟨⟨fun x hx => ?_, by rw [← e]; exact o.nd⟩, fun g hg => by rw [e]; exact hg⟩
  obtain ⟨r, hr, rfl⟩ := List.mem_map.1 hx
  exact o.all (.rows l) (by simp) r hr
theorem Ent.rows_perm {l l' : List RowD} (p : l.Perm l') : Ent [.rows l] [.rows l'] := ((Ent.rows_un l).trans (Ent.perm (p.map RowD.ha))).trans (Ent.rows_mk l')
theorem Ent.rows_out (l1 l2 : List RowD) (r : RowD) : Ent [.rows (l1 ++ r :: l2)] [r.ha, .rows (l1 ++ l2)] :=
  ((Ent.rows_perm (List.perm_middle)).trans (Ent.rows_un (r :: (l1 ++ l2)))).trans (Ent.app (Ent.refl [r.ha]) (Ent.rows_mk (l1 ++ l2)))
theorem Ent.rows_in (l1 l2 : List RowD) (r : RowD) : Ent [r.ha, .rows (l1 ++ l2)] [.rows (l1 ++ r :: l2)] :=
  ((Ent.app (Ent.refl [r.ha]) (Ent.rows_un (l1 ++ l2))).trans (Ent.rows_mk (r :: (l1 ++ l2)))).trans (Ent.rows_perm List.perm_middle.symm)
/-- a cell of one of many rows -/
theorem ldrows {R : Rd} {h : Hp} (i : Nat) {l : List RowD} {r : RowD} {a : Addr} {v : Value} (hi : h[i]? = some (.rows l)) (hr : r ∈ l) (hc : r.cell a v) : RH R h a v :=
  .inr ⟨_, List.mem_of_getElem? hi, r, hr, hc⟩
/-- a cell of memory that is only read -/
theorem ldro {R : Rd} {h : Hp} (i : Nat) {ids : List Nat} {C : Rd} {a : Addr} {v : Value} (hi : h[i]? = some (.ro ids C)) (hc : C a v) : RH R h a v :=
  .inr ⟨_, List.mem_of_getElem? hi, hc⟩

end Go.Proofs.YtgnmbgbiajgpeaaDoor

namespace Go.Proofs.YtgnmbgbiajgpeaaDoor
open Go Go.RowKit Go.WideShapes

/-- Shapes of types: integers, truth values, texts, slices, pointers, structs (a chain of fields). -/
inductive Shp where
  | int (k : IntKind)
  | bool
  | str
  | sl (sz : Nat) (e : Shp)
  | ptr (sz : Nat) (e : Shp)
  | f0 (n : Nat)
  | fc (off sz : Nat) (e rest : Shp)

def Shp.fits (P : Program) : Shp → TypeId → Nat → Bool
  | .int k, t, _ => match P.underlying t with | some (.int k') => decide (k = k') | _ => false
  | .bool, t, _ => match P.underlying t with | some .bool => true | _ => false
  | .str, t, _ => match P.underlying t with | some .string => true | _ => false
  | .sl sz e, t, _ => match P.underlying t with | some (.slice u) => P.cellsOf u == sz && e.fits P u 0 | _ => false
  | .ptr sz e, t, _ => match P.underlying t with | some (.pointer u) => P.cellsOf u == sz && e.fits P u 0 | _ => false
  | .f0 n, t, _ => match P.underlying t with | some (.struct _) => P.cellsOf t == n | _ => false
  | .fc off sz e rest, t, i => match P.underlying t with
    | some (.struct fs) => (match fs[i]? with | some f => f.offset == off && P.cellsOf f.type == sz && e.fits P f.type 0 | _ => false) && rest.fits P t (i + 1)
    | _ => false

def Seen (R : Rd) : Shp → List Value → Prop
  | .int k, cs => ∃ n, cs = [.int k n] ∧ (Lit.int k n).wf = true
  | .bool, cs => ∃ x, cs = [.bool x]
  | .str, cs => ∃ x, cs = [.string x] ∧ x.size ≤ maxLen
  | .sl sz e, cs => cs = [.slice none 0 0] ∨ ∃ a n cap, cs = [.slice (some a) n cap] ∧ n ≤ cap ∧ cap ≤ maxLen ∧
      ∀ i, i < n → ∃ xs, xs.length = sz ∧ (∀ j u, xs[j]? = some u → R (a.add (i * sz + j)) u) ∧ Seen R e xs
  | .ptr sz e, cs => cs = [.pointer none] ∨ ∃ a xs, cs = [.pointer (some a)] ∧ xs.length = sz ∧ (∀ j u, xs[j]? = some u → R (a.add j) u) ∧ Seen R e xs
  | .f0 n, cs => cs.length = n
  | .fc off sz e rest, cs => Seen R e ((cs.drop off).take sz) ∧ Seen R rest cs

/-- A whole value of a shape. -/
def SeenV (R : Rd) (s : Shp) (v : Value) : Prop := Seen R s v.cells.toList ∧ match s with
  | .f0 _ | .fc .. => ∃ cs, v = .agg cs
  | _ => ∀ cs, v ≠ .agg cs

section
variable {H : Type} {enc : TypeId × Value → H} {P : Program} {w : World} {spare : Nat → Bool} {held : Bool}

theorem add_add (a : Addr) (i j : Nat) : (a.add i).add j = a.add (i + j) := by
  unfold Addr.add
  by_cases h1 : i = 0 <;> by_cases h2 : j = 0 <;> simp [h1, h2, Nat.add_assoc]

theorem seen_of {s : Shp} : ∀ {t : TypeId} {i : Nat} {fuel : Nat} {cs : List Value} {x : DataW H × List MemPlace}, s.fits P t i = true → DataW.trod enc P w 0 spare held fuel t cs = some x → Seen (fun a v => w.cell? a = some v) s cs := by
  induction s with
  | int k =>
    intro t i fuel cs x hf h
    simp only [Shp.fits] at hf
    split at hf
    · rename_i k' ht
      obtain rfl := of_decide_eq_true hf
      obtain ⟨n, rfl, _, hw⟩ := DataW.trod_int ht h
      exact ⟨n, rfl, hw⟩
    · cases hf
  | bool =>
    intro t i fuel cs x hf h
    simp only [Shp.fits] at hf
    split at hf
    · rename_i ht
      obtain ⟨n, rfl, _⟩ := DataW.trod_bool ht h
      exact ⟨n, rfl⟩
    · cases hf
  | str =>
    intro t i fuel cs x hf h
    simp only [Shp.fits] at hf
    split at hf
    · rename_i ht
      obtain ⟨n, rfl, _, hw⟩ := DataW.trod_string ht h
      exact ⟨n, rfl, hw⟩
    · cases hf
  | sl sz e ih =>
    intro t i fuel cs x hf h
    simp only [Shp.fits] at hf
    split at hf
    · rename_i u ht
      simp only [Bool.and_eq_true, beq_iff_eq] at hf
      obtain ⟨rfl, hf⟩ := hf
      rcases DataW.trod_slice ht h with ⟨rfl, _⟩ | ⟨a, len, cap, elems, rest, n, _, rfl, _, _, hl, hm, hlen, hel, _⟩
      · exact .inl rfl
      · refine .inr ⟨a, len, cap, rfl, hl, hm, fun i hi => ?_⟩
        have hE := hel i hi
        have : i < elems.length := by omega
        rw [List.getElem?_eq_getElem this, Option.bind_eq_some_iff] at hE
        obtain ⟨xs, hxs, hy⟩ := hE
        obtain ⟨_, hlx, hc⟩ := World.cells?_some hxs
        refine ⟨xs, hlx, fun j u hu => ?_, ih hf hy⟩
        have := (List.getElem?_eq_some_iff.1 hu).1
        show w.cell? _ = some _
        rw [← hu, ← hc j (by omega), add_add]
    · cases hf
  | ptr sz e ih =>
    intro t i fuel cs x hf h
    simp only [Shp.fits] at hf
    split at hf
    · rename_i u ht
      simp only [Bool.and_eq_true, beq_iff_eq] at hf
      obtain ⟨rfl, hf⟩ := hf
      rcases DataW.trod_pointer ht h with ⟨rfl, _⟩ | ⟨a, xs, y, n, _, rfl, _, hxs, hy⟩
      · exact .inl rfl
      · obtain ⟨_, hlx, hc⟩ := World.cells?_some hxs
        refine .inr ⟨a, xs, rfl, hlx, fun j u hu => ?_, ih hf hy⟩
        have := (List.getElem?_eq_some_iff.1 hu).1
        show w.cell? _ = some _
        rw [← hu, ← hc j (by omega)]
    · cases hf
  | f0 n =>
    intro t i fuel cs x hf h
    simp only [Shp.fits] at hf
    split at hf
    · rename_i fs ht
      obtain rfl := of_decide_eq_true hf
      obtain ⟨xs, n, _, _, hl, _⟩ := DataW.trod_struct ht h
      exact hl
    · cases hf
  | fc off sz e rest ih ih2 =>
    intro t i fuel cs x hf h
    have hf0 := hf
    simp only [Shp.fits] at hf
    split at hf
    · rename_i fs ht
      simp only [Bool.and_eq_true] at hf
      obtain ⟨h1, h2⟩ := hf
      split at h1
      · rename_i f hfi
        simp only [Bool.and_eq_true, beq_iff_eq] at h1
        obtain ⟨⟨rfl, rfl⟩, h1⟩ := h1
        obtain ⟨xs, n, _, _, hl, hxl, hx⟩ := DataW.trod_struct ht h
        have hi := hx i f hfi
        have : i < xs.length := by rw [hxl]; exact (Array.getElem?_eq_some_iff.1 hfi).1
        rw [List.getElem?_eq_getElem this] at hi
        exact ⟨ih h1 hi, ih2 h2 h⟩
      · cases h1
    · cases hf

theorem seenV_of {s : Shp} {t : TypeId} {v : Value} {d : DataW H} {ps : List MemPlace} {r : Reach} {b0 : Nat} (hf : s.fits P t 0 = true) (hv : Value.okWide P w r b0 t v) (h : DataW.Trod enc P w 0 spare held t v d ps) : SeenV (fun a v => w.cell? a = some v) s v := by
  obtain ⟨fuel, h⟩ := h
  refine ⟨seen_of hf h, ?_⟩
  cases s <;> simp only [Shp.fits] at hf ⊢ <;> split at hf <;> first | (cases hf; done) | skip
  all_goals rename_i ht
  · obtain ⟨n, rfl⟩ := okWide_int ht hv; intro cs hc; cases hc
  · obtain ⟨n, rfl⟩ := okWide_bool ht hv; intro cs hc; cases hc
  · obtain ⟨n, rfl⟩ := okWide_string ht hv; intro cs hc; cases hc
  · obtain ⟨a, n, c, rfl⟩ := okWide_slice ht hv; intro cs hc; cases hc
  · obtain ⟨a, rfl⟩ := okWide_pointer ht hv; intro cs hc; cases hc
  · obtain ⟨cs, rfl, _⟩ := okWide_struct ht hv; exact ⟨cs, rfl⟩
  · obtain ⟨cs, rfl, _⟩ := okWide_struct ht hv; exact ⟨cs, rfl⟩
end

theorem cells_one {v : Value} (h : ∀ cs, v ≠ .agg cs) : v.cells.toList = [v] := by
  cases v <;> first | rfl | exact absurd rfl (h _)

theorem SeenV.u64 {R : Rd} {v : Value} (h : SeenV R (.int .u64) v) : ∃ n : Nat, v = .int .u64 n ∧ n ≤ 18446744073709551615 := by
  obtain ⟨⟨n, hn, hw⟩, hv⟩ := h
  rw [cells_one hv] at hn
  simp only [List.cons.injEq, and_true] at hn
  subst hn
  have : 0 ≤ n ∧ n ≤ 18446744073709551615 := by simpa [Lit.wf, IntKind.has, IntKind.min, IntKind.max, IntKind.bits, IntKind.signed] using hw
  exact ⟨n.toNat, by congr 1; omega, by omega⟩

theorem SeenV.i64 {R : Rd} {v : Value} (h : SeenV R (.int .i64) v) : ∃ n : Int, v = .int .i64 n ∧ -9223372036854775808 ≤ n ∧ n ≤ 9223372036854775807 := by
  obtain ⟨⟨n, hn, hw⟩, hv⟩ := h
  rw [cells_one hv] at hn
  simp only [List.cons.injEq, and_true] at hn
  subst hn
  exact ⟨n, rfl, by simpa [Lit.wf, IntKind.has, IntKind.min, IntKind.max, IntKind.bits, IntKind.signed] using hw⟩

theorem SeenV.bool {R : Rd} {v : Value} (h : SeenV R .bool v) : ∃ x, v = .bool x := by
  obtain ⟨⟨n, hn⟩, hv⟩ := h
  rw [cells_one hv] at hn
  simp only [List.cons.injEq, and_true] at hn
  exact ⟨n, hn⟩

theorem SeenV.string {R : Rd} {v : Value} (h : SeenV R .str v) : ∃ x, v = .string x ∧ x.size ≤ maxLen := by
  obtain ⟨⟨n, hn, hw⟩, hv⟩ := h
  rw [cells_one hv] at hn
  simp only [List.cons.injEq, and_true] at hn
  exact ⟨n, hn, hw⟩

/-- The elements of a list of groups of cells, by their place. -/
theorem flat_get {α : Type} {c : α → List Value} {sz : Nat} : ∀ {l : List α}, (∀ x ∈ l, (c x).length = sz) → ∀ {j : Nat} {u : Value}, (l.flatMap c)[j]? = some u → ∃ i x k, l[i]? = some x ∧ (c x)[k]? = some u ∧ j = i * sz + k
  | [], _, j, u, h => by simp at h
  | x :: l, hl, j, u, h => by
    have hx := hl x (by simp)
    rw [List.flatMap_cons] at h
    by_cases hj : j < sz
    · rw [List.getElem?_append_left (by omega)] at h
      exact ⟨0, x, j, rfl, h, by omega⟩
    · rw [List.getElem?_append_right (by omega)] at h
      obtain ⟨i, y, k, h1, h2, h3⟩ := flat_get (fun y hy => hl y (by simp [hy])) h
      exact ⟨i + 1, y, k, h1, h2, by rw [Nat.add_mul]; omega⟩

theorem flat_len {α : Type} {c : α → List Value} {sz : Nat} : ∀ {l : List α}, (∀ x ∈ l, (c x).length = sz) → (l.flatMap c).length = l.length * sz
  | [], _ => by simp
  | x :: l, hl => by
    rw [List.flatMap_cons, List.length_append, hl x (by simp), flat_len (fun y hy => hl y (by simp [hy])), List.length_cons, Nat.add_mul]; omega

/-- A choice of one for each place. -/
theorem pick_list {α : Type} {p : Nat → α → Prop} : ∀ (n : Nat), (∀ i, i < n → ∃ x, p i x) → ∃ l : List α, l.length = n ∧ ∀ i x, l[i]? = some x → p i x
  | 0, _ => ⟨[], rfl, fun i x h => by simp at h⟩
  | n + 1, h => by
    obtain ⟨l, hl, hp⟩ := pick_list n fun i hi => h i (by omega)
    obtain ⟨x, hx⟩ := h n (by omega)
    refine ⟨l ++ [x], by simp [hl], fun i y hy => ?_⟩
    by_cases hi : i < l.length
    · rw [List.getElem?_append_left hi] at hy; exact hp i y hy
    · rw [List.getElem?_append_right (by omega)] at hy
      have : i - l.length = 0 := by have := (List.getElem?_eq_some_iff.1 hy).1; simp at this; omega
      rw [this] at hy
      simp at hy
      subst hy
      have : i = n := by omega
      rw [this]; exact hx

/-- A slice whose elements are read as things of a kind. -/
theorem SeenV.slice {R : Rd} {sz : Nat} {e : Shp} {v : Value} (h : SeenV R (.sl sz e) v) {α : Type} (c : α → List Value) (ok : α → Prop) (hsz : ∀ x, ok x → (c x).length = sz) (hE : ∀ xs, xs.length = sz → Seen R e xs → ∃ x, ok x ∧ xs = c x) :
    ∃ l : List α, (∀ x ∈ l, ok x) ∧ l.length ≤ maxLen ∧ SlR R sz v l.length (l.flatMap c) := by
  obtain ⟨h, hv⟩ := h
  rw [cells_one hv] at h
  rcases h with h | ⟨a, n, cap, h, hnc, hcm, hel⟩
  · simp only [List.cons.injEq, and_true] at h
    subst h
    exact ⟨[], by simp, by simp, by simp, none, 0, rfl, fun j u hu => by simp at hu⟩
  · simp only [List.cons.injEq, and_true] at h
    subst h
    obtain ⟨l, hl, hp⟩ := pick_list (p := fun i x => ok x ∧ ∀ j u, (c x)[j]? = some u → R (a.add (i * sz + j)) u) n (fun i hi => by
      obtain ⟨xs, hxl, hR, hs⟩ := hel i hi
      obtain ⟨x, hx, rfl⟩ := hE xs hxl hs
      exact ⟨x, hx, hR⟩)
    have hok : ∀ x ∈ l, ok x := fun x hx => by
      obtain ⟨i, hi⟩ := List.getElem?_of_mem hx
      exact (hp i x hi).1
    refine ⟨l, hok, by omega, flat_len (fun x hx => hsz x (hok x hx)), some a, cap, by rw [hl], fun j u hu => ⟨a, rfl, ?_⟩⟩
    obtain ⟨i, x, k, h1, h2, rfl⟩ := flat_get (fun x hx => hsz x (hok x hx)) hu
    exact (hp i x h1).2 k u h2

theorem flat_one {l : List UInt8} : l.flatMap (fun x => [Value.int .u8 x.toNat]) = BV l := by
  induction l with
  | nil => rfl
  | cons x l ih => rw [List.flatMap_cons, ih]; rfl

theorem SeenV.bytes {R : Rd} {v : Value} (h : SeenV R (.sl 1 (.int .u8)) v) : ∃ l : List UInt8, l.length ≤ maxLen ∧ BsR R v l := by
  obtain ⟨l, _, hl, hs⟩ := h.slice (fun x : UInt8 => [Value.int .u8 x.toNat]) (fun _ => True) (fun _ _ => rfl) (fun xs _ hx => by
    obtain ⟨n, rfl, hw⟩ := hx
    have : 0 ≤ n ∧ n ≤ 255 := by simpa [Lit.wf, IntKind.has, IntKind.min, IntKind.max, IntKind.bits, IntKind.signed] using hw
    exact ⟨UInt8.ofNat n.toNat, trivial, by rw [← byte_of this.1 this.2]⟩)
  rw [flat_one] at hs
  exact ⟨l, hl, hs⟩

theorem SeenV.ints {R : Rd} {v : Value} (h : SeenV R (.sl 1 (.int .i64)) v) : ∃ l : List Int, (∀ x ∈ l, -9223372036854775808 ≤ x ∧ x ≤ 9223372036854775807) ∧ l.length ≤ maxLen ∧ SlR R 1 v l.length (l.flatMap fun x => [Value.int .i64 x]) := by
  exact h.slice (fun x : Int => [Value.int .i64 x]) (fun x => -9223372036854775808 ≤ x ∧ x ≤ 9223372036854775807) (fun _ _ => rfl) (fun xs _ hx => by
    obtain ⟨n, rfl, hw⟩ := hx
    exact ⟨n, by simpa [Lit.wf, IntKind.has, IntKind.min, IntKind.max, IntKind.bits, IntKind.signed] using hw, rfl⟩)

/-- A law's walk, out of its contract. -/
theorem law_walk {P : Program} {f : FuncId} {args : List Value} {w : World} (h : Fn P f args [] (fun a v => w.cell? a = some v) (fun v _ => v = .bool true)) :
    Calls P f args.toArray w (fun e w' => e = .returned (.bool true) ∧ Below w.heap.size w w') :=
  (h.2 w (Own.nil w) (fun _ _ h => h) (fun _ _ _ => by simp [idsOf])).mono fun _ _ ⟨_, _, he, hq, t⟩ => ⟨by rw [he, hq], t.below⟩

end Go.Proofs.YtgnmbgbiajgpeaaDoor

namespace Go.Proofs.YtgnmbgbiajgpeaaDoor
open Go Go.RowKit
set_option linter.unusedVariables false

abbrev inR (l : Nat) : Fence := Fence.wide.inRound l
theorem depth_inR (l : Nat) {p : Prop} (h : (inR l).depth.isSome = true) : p := by simp [Fence.wide] at h

theorem wpIn_of_wp {P : Program} {o : Oper} {a : Act} {w : World} {next : Act → World → Prop} {Q : Exit → Act → World → Prop} {l n : Nat} (hd : ∀ c, o.op ≠ .defer c) (h : o.wp P a w next Q) : o.wpIn (inR l) n P a w next Q := by
  refine ⟨fun _ _ => trivial, ?_⟩
  rw [show (inR l).round = some l from rfl, Oper.semAt_some _ _ _ hd]
  unfold Oper.wp at h
  generalize (execOp a.eval o).run P w = r at *
  cases r with
  | ok x w' =>
    cases x with
    | value v => exact h
    | skip => exact h
    | defer d => exact h
    | enter f args => exact ⟨fun h => depth_inR l h, CallsIn.inRound l (callsIn_wide.2 h)⟩
    | row r args => exact ⟨fun h => depth_inR l h, fun c cs _ => by obtain ⟨v, w2, hv, hs⟩ := h c cs; exact ⟨v, w2, hv, stepsIn_wide.2 hs⟩⟩
    | _ => exact False.elim h
  | halt x w' => cases x <;> exact h

def noDef : List Oper → Bool
  | [] => true
  | o :: r => (match o.op with | .defer _ => false | _ => noDef r)
def roundOk : Code → Bool
  | .skip => true
  | .label _ => true
  | .exit _ => true
  | .ret => true
  | .region _ ops draw => (match draw with | false => noDef ops.toList | true => false)
  | .seq a b => roundOk a && roundOk b
  | .cond _ a b => roundOk a && roundOk b
  | .block _ c => roundOk c
  | _ => false

theorem vcOps_soundIn {P : Program} {tab : Tab} (htab : TabOk P tab) {R : Rd} {all : List Oper} {K : Kont} {Q : Exit → Act → World → Prop} {lp n : Nat} : ∀ (l : List Oper) {ρ : List Value} {ds : List Deferred} {h : Hp} {w : World}, noDef l = true → Own h w → RSat R w → Apart R h →
    (∀ ρ' ds' h' w', K ρ' ds' h' → Tr w h w' h' → Q .normal (act ρ' ds') w') → vcOps P tab R all K l ρ ds h → wpListIn (inR lp) n P all.toArray Q l (act ρ ds) w
  | [], ρ, ds, h, w, _, own, _, _, hn, hE => hn _ _ _ w hE (Tr.refl own)
  | o :: r, ρ, ds, h, w, hd, own, hr, ap, hn, hE => by
    have hd2 : (∀ c, o.op ≠ .defer c) ∧ noDef r = true := by
      unfold noDef at hd
      split at hd
      · cases hd
      · rename_i hne; exact ⟨fun c e => hne c e, hd⟩
    have := vcOp_sound (Q := Q) (next := wpListIn (inR lp) n P all.toArray Q r) htab own hr ap (fun ρ' ds' h' w' hK ht =>
      vcOps_soundIn htab r hd2.2 ht.own (hr.tr ap ht) (Apart.tr hr ap ht) (fun ρ2 ds2 h2 w2 hK2 ht2 => hn _ _ _ w2 hK2 (ht.trans ht2)) hK) hE
    unfold wpListIn
    split
    · rename_i hw; rw [if_pos hw] at this; exact wpIn_of_wp hd2.1 this
    · rename_i hw; rw [if_neg hw] at this; exact ⟨fun _ _ => trivial, this⟩

/-- Code within a round, out of its formula. -/
theorem vcC_soundIn {P : Program} {tab : Tab} (htab : TabOk P tab) {R : Rd} {lp n : Nat} (c : Code) : ∀ {N : Kont} {X : Nat → Kont} {Rt : Kont} {ρ : List Value} {ds : List Deferred} {h : Hp} {w : World} {Q : Exit → Act → World → Prop}, roundOk c = true → Own h w → RSat R w → Apart R h →
    (∀ ρ' ds' h' w', N ρ' ds' h' → Tr w h w' h' → Q .normal (act ρ' ds') w') → (∀ i ρ' ds' h' w', X i ρ' ds' h' → Tr w h w' h' → Q (.exit i) (act ρ' ds') w') → (∀ ρ' ds' h' w', Rt ρ' ds' h' → Tr w h w' h' → Q .ret (act ρ' ds') w') →
    vcC P tab R c N X Rt ρ ds h → c.wpIn (inR lp) n P Q (act ρ ds) w := by
  induction c with
  | skip => intro N X Rt ρ ds h w Q hc own hr ap hN hX hR hE; exact wpIn_skip (hN _ _ _ w hE (Tr.refl own))
  | label l => intro N X Rt ρ ds h w Q hc own hr ap hN hX hR hE; exact wpIn_label (hN _ _ _ w hE (Tr.refl own))
  | exit id => intro N X Rt ρ ds h w Q hc own hr ap hN hX hR hE; exact wpIn_exit (hX _ _ _ _ w hE (Tr.refl own))
  | ret => intro N X Rt ρ ds h w Q hc own hr ap hN hX hR hE; exact wpIn_ret (hR _ _ _ w hE (Tr.refl own))
  | region id ops draw =>
    intro N X Rt ρ ds h w Q hc own hr ap hN hX hR hE
    obtain ⟨l⟩ := ops
    unfold vcC at hE
    unfold roundOk at hc
    cases draw with
    | false => exact wpIn_region_lit (vcOps_soundIn htab l hc own hr ap hN hE)
    | true => cases hc
  | seq a b iha ihb =>
    intro N X Rt ρ ds h w Q hc own hr ap hN hX hR hE
    unfold roundOk at hc
    simp only [Bool.and_eq_true] at hc
    refine wpIn_seq (iha hc.1 own hr ap (fun ρ' ds' h' w' hK ht => ?_) hX hR hE)
    exact ihb hc.2 ht.own (hr.tr ap ht) (Apart.tr hr ap ht) (fun ρ2 ds2 h2 w2 hK2 ht2 => hN _ _ _ w2 hK2 (ht.trans ht2)) (fun i ρ2 ds2 h2 w2 hK2 ht2 => hX i _ _ _ w2 hK2 (ht.trans ht2)) (fun ρ2 ds2 h2 w2 hK2 ht2 => hR _ _ _ w2 hK2 (ht.trans ht2)) hK
  | cond x a b iha ihb =>
    intro N X Rt ρ ds h w Q hc own hr ap hN hX hR hE
    unfold roundOk at hc
    simp only [Bool.and_eq_true] at hc
    unfold vcC at hE
    rw [evK_eq] at hE
    split at hE <;> first | exact hE.elim | skip
    rename_i t hx
    refine wpIn_cond_split (t := t) (by rw [act_eval]; exact hx) (fun ht => iha hc.1 own hr ap hN hX hR (hE.1 ht)) (fun ht => ihb hc.2 own hr ap hN hX hR (hE.2 ht))
  | block id c ih =>
    intro N X Rt ρ ds h w Q hc own hr ap hN hX hR hE
    unfold roundOk at hc
    refine wpIn_block (ih hc own hr ap hN (fun i ρ' ds' h' w' hK ht => ?_) hR hE)
    simp only [Exit.inBlock]
    by_cases hi : i = id
    · rw [if_pos hi]
      subst hi
      have hb : Nat.beq i i = true := Nat.beq_refl i
      rw [hb] at hK
      exact hN _ _ _ w' hK ht
    · rw [if_neg hi]
      have hb : Nat.beq i id = false := by
        cases hb : Nat.beq i id
        · rfl
        · exact absurd (Nat.eq_of_beq_eq_true hb) hi
      rw [hb] at hK
      exact hX i _ _ _ w' hK ht
  | _ => intro N X Rt ρ ds h w Q hc own hr ap hN hX hR hE; cases hc

/-! ### a function that holds a range over a function -/
/-- The marks among the deferred calls are shut; then the results. -/
def runM (K : Hp → Prop) : List Deferred → Hp → Prop
  | [], h => K h
  | d :: ds, h => (match d.target with
    | .collected D => ∃ i, nthK (fun y => (match y with
      | .obj D' (.deferred (some [])) => D' = D ∧ setHK (.obj D (.deferred .none)) i h fun h2 => runM K ds h2
      | _ => False)) h i
    | _ => False)

theorem runM_sound {P : Program} {tab : Tab} (htab : TabOk P tab) {R : Rd} {ρ : List Value} {fn : Func} {w0 : World} {h0 : Hp} {Post : Value → Hp → Prop} {n : Nat} : ∀ (ds : List Deferred) (h : Hp) (w : World), Tr w0 h0 w h → RSat R w → Apart R h →
    runM (fun h => resK tab (RH R h) ρ fn.results.toList fun l => ∃ h', Ent h h' ∧ Post (retV l) h') ds h → LeavesInM Fence.wide n P fn ρ.toArray (FnPost w0 h0 Post) ds .returning w
  | [], h, w, ht, hr, ap, hE => by
    obtain ⟨vs, h1, h', he, hp⟩ := run_results (P := P) htab (hr.rh ht.own) hE
    exact ⟨_, h1, _, h', rfl, hp, ht.ent he⟩
  | d :: ds, h, w, ht, hr, ap, hE => by
    obtain ⟨target, dargs⟩ := d
    unfold runM at hE
    split at hE <;> first | exact hE.elim | skip
    rename_i D htar
    simp only at htar; subst htar
    obtain ⟨i, hE⟩ := hE
    obtain ⟨y, hy, hE⟩ := nthK_eq _ _ _ hE
    split at hE <;> first | exact hE.elim | skip
    rename_i D'
    obtain ⟨rfl, hE⟩ := hE
    rw [setHK_eq] at hE
    have hw := ht.own.all _ (List.mem_of_getElem? hy)
    have htt := Tr.at_ ht.own hy (Tr.setObj_ (o' := .deferred .none) hw.1 (fun _ _ _ e => by cases e))
    refine ⟨by simp, .inl ⟨D', setBlk w D' (.deferred .none), rfl, ?_, runM_sound htab ds _ _ (ht.trans htt) (hr.tr ap htt) (Apart.tr hr ap htt) hE⟩⟩
    unfold Instr.takeDeferred
    simp only [Sem.run_bind, run_getObj hw.1 hw.2, Result.andThen_ok, run_setObj hw.1 hw.2, Sem.run_pure]

def retM (tab : Tab) (R : Rd) (rs : List ResultVar) (Post : Value → Hp → Prop) : Kont :=
  fun ρ ds h => runM (fun h => resK tab (RH R h) ρ rs fun l => ∃ h', Ent h h' ∧ Post (retV l) h') ds h

theorem fnM_of_vc {P : Program} (hm : P.follows .mixedOrders = true) {tab : Tab} (htab : TabOk P tab) {f : FuncId} {fn : Func} {c : Code} (hf : P.funcs[f]? = some fn) (hb : fn.body = some c) (hname : (fn.name == "runtime.NumGoroutine") = false)
    {args : List Value} {h : Hp} {R : Rd} {Post : Value → Hp → Prop} (hl : args.length ≤ fn.ntmps)
    (hvc : iniK fn.ntmps args fun ρ => vcC P tab R c (retM tab R fn.results.toList Post) (fun _ _ _ _ => False) (retM tab R fn.results.toList Post) ρ [] h) : Fn P f args h R Post := by
  refine ⟨⟨fn, hf, by simp [hb], hname⟩, fun w own hr ap => ?_⟩
  rw [iniK_eq _ _ _ hl] at hvc
  refine (callsIn_wide (n := 4)).1 (callsIn_of_wp_marks hf hb trivial (wpIn_wide.2 ?_))
  have e : (args.toArray ++ Array.replicate (fn.ntmps - args.toArray.size) undef) = (args ++ List.replicate (fn.ntmps - args.length) undef).toArray := by
    apply Array.ext'; simp
  rw [e]
  refine vcC_sound hm htab c own hr ap (fun ρ ds h' w' hK ht => ?_) (fun i ρ ds h' w' hK _ => False.elim hK) (fun ρ ds h' w' hK ht => ?_) hvc
  · exact runM_sound htab ds h' w' ht (hr.tr ap ht) (Apart.tr hr ap ht) hK
  · exact runM_sound htab ds h' w' ht (hr.tr ap ht) (Apart.tr hr ap ht) hK

/-! ### the loop -/
/-- Memory whose blocks hold cells. -/
def HA.isC : HA → Bool
  | .blk .. => true
  | .row .. => true
  | .rows _ => true
  | _ => false
/-- What is there is of the memory 'h', or holds cells. -/
def Near (h h' : Hp) : Prop := ∀ y ∈ h', y ∈ h ∨ y.isC = true
theorem Near.refl (h : Hp) : Near h h := fun _ hy => .inl hy

theorem isC_cells {y : HA} {W : World} (h : y.holds W) (hc : y.isC = true) : ∀ g ∈ y.ids, ∃ c t f, W.heap[g]? = some (.cells c t f) := by
  intro g hg
  have hrow : ∀ {A : Option Addr} {n cap : Nat} {e : TypeId} {sz : Nat} {xs : List Value} {fz : Nat × Nat}, rowHolds W A n cap e sz xs fz → g ∈ rowIds A → ∃ c t f, W.heap[g]? = some (.cells c t f) := by
    intro A n cap e sz xs fz hh hg
    cases A with
    | none => simp [rowIds] at hg
    | some a =>
      simp only [rowIds, List.mem_singleton] at hg
      subst hg
      obtain ⟨_, _, _, _, _, _, rest, hh, _⟩ := hh
      exact ⟨_, _, _, hh⟩
  cases y with
  | blk g' t cs => simp only [HA.ids, List.mem_singleton] at hg; subst hg; exact ⟨_, _, _, h⟩
  | row A n cap e sz xs fz => exact hrow h hg
  | rows l =>
    obtain ⟨r, hr, hgr⟩ := List.mem_flatMap.1 hg
    exact hrow (h r hr) hgr
  | obj r o => cases hc
  | ro ids C => cases hc

/-- A step of the book-keeping at a block behind the memory that the loop began with. -/
theorem Tr.grown {w W W' : World} {h h' : Hp} {row : Option Nat} (own : Own h w) (t : Tr w h W h') (hn : Near h h') (hg : W.grownBy W' row) (hr : ∀ r, row = some r → w.heap.size ≤ r ∧ ∃ o : Obj, W.heap[r]? = some o ∧ o.isCells = false) : Tr w h W' h' := by
  have hs := hg.size
  have hne : ∀ x ∈ h', ∀ g ∈ x.ids, some g ≠ row := by
    intro x hx g hgx e
    obtain ⟨h1, o, ho, hc⟩ := hr g e.symm
    rcases hn x hx with hx' | hx'
    · have := own.lt (mem_idsOf.2 ⟨x, hx', hgx⟩); omega
    · obtain ⟨c, t', f, hcs⟩ := isC_cells (t.own.all x hx) hx' g hgx
      rw [hcs] at ho; cases ho; simp [Obj.isCells] at hc
  refine ⟨hg.os.trans t.os, hg.tape.trans t.tape, hg.output.trans t.output, by have := t.size; omega, fun k h1 h2 => ?_, ⟨fun x hx => ?_, t.own.nd⟩, t.fresh⟩
  · exact (hg.block k (by have := t.size; omega) (fun e => by have := (hr k e.symm).1; omega)).trans (t.keep k h1 h2)
  · exact HA.holds_congr hs (fun g hgx => hg.block g (HA.holds_lt (t.own.all x hx) g hgx) (hne x hx g hgx)) (t.own.all x hx)

theorem Tr.keepsFrom {w W W' : World} {h h' h2 : Hp} (own : Own h w) (t : Tr w h W h') (hn : Near h h') (s : Tr W h' W' h2) : KeepsFrom w.heap.size W W' := by
  refine ⟨s.size, fun k o hB hk ho => (s.keep k (heap_lt hk) (fun hm => ?_)).trans hk⟩
  obtain ⟨x, hx, hgx⟩ := mem_idsOf.1 hm
  rcases hn x hx with hx' | hx'
  · have := own.lt (mem_idsOf.2 ⟨x, hx', hgx⟩); omega
  · obtain ⟨c, t', f, hcs⟩ := isC_cells (t.own.all x hx) hx' k hgx
    rw [hcs] at hk; cases hk; simp [Obj.isCells] at ho

/-- A block of the book-keeping joins the memory at hand. -/
theorem Tr.join {w W : World} {h h' : Hp} {D : Nat} {o : Obj} (own : Own h w) (t : Tr w h W h') (hn : Near h h') (hD : w.heap.size ≤ D) (ho : W.heap[D]? = some o) (hc : ∀ c t f, o ≠ .cells c t f) : Tr w h W (h' ++ [.obj D o]) := by
  have hnot : D ∉ idsOf h' := fun hm => by
    obtain ⟨x, hx, hgx⟩ := mem_idsOf.1 hm
    rcases hn x hx with hx' | hx'
    · have := own.lt (mem_idsOf.2 ⟨x, hx', hgx⟩); omega
    · obtain ⟨c, t', f, hcs⟩ := isC_cells (t.own.all x hx) hx' D hgx
      rw [hcs] at ho; cases ho; exact hc _ _ _ rfl
  refine ⟨t.os, t.tape, t.output, t.size, t.keep, ⟨fun x hx => ?_, ?_⟩, fun g hg => ?_⟩
  · rcases List.mem_append.1 hx with hx | hx
    · exact t.own.all x hx
    · rw [List.mem_singleton.1 hx]; exact ⟨ho, hc⟩
  · rw [idsOf_append]
    refine List.nodup_append.2 ⟨t.own.nd, by simp [idsOf, HA.ids], fun g hg g' hg' e => ?_⟩
    have : g' = D := by simpa [idsOf, HA.ids] using hg'
    subst this; subst e; exact hnot hg
  · rw [idsOf_append] at hg
    rcases List.mem_append.1 hg with hg | hg
    · exact t.fresh g hg
    · have : g = D := by simpa [idsOf, HA.ids] using hg
      subst this; exact .inr hD

theorem foldl_sets : ∀ (S : List Nat) (vs ρ : List Value), (S.zip vs).foldl (fun t (p, v) => t.setIfInBounds p v) ρ.toArray = (setsL S vs ρ).toArray
  | [], _, _ => by cases ‹List Value› <;> rfl
  | _ :: _, [], _ => rfl
  | s :: S, v :: vs, ρ => by
    rw [List.zip_cons_cons, List.foldl_cons, setsL, ← foldl_sets S vs (ρ.set s v)]
    simp

/-- What a round that goes on keeps: all that may be read. -/
def KpR (R : Rd) (h : Hp) : World → World → Prop := fun A B => RSat (RH R h) A → RSat (RH R h) B
def collD (D : Nat) : Deferred := { target := .collected D, args := #[] }

theorem vc_range {P : Program} {tab : Tab} (htab : TabOk P tab) {α : Type} {enc : α → List Value} {xs : List α} {R : Rd} {f : Operand} {ps : Array Tmp} {assign body : Code} {ρ : List Value} {ds : List Deferred} {h : Hp} {gf : FuncId} {lb : List Value}
    (hf : ev ρ f = .func (.func gf) #[] lb.toArray) (hcall : Callable P gf) (hps : ∀ x, (enc x).length = ps.size)
    (hseq : ∀ w, Own h w → RSat R w → SeqStopsK Fence.wide 3 P gf lb.toArray (fun x => (enc x).toArray) (KpR R h) (fun ys => ys = xs) (fun pre => pre <+: xs) xs.length w)
    (hra : roundOk assign = true) (hrb : roundOk body = true) (NA : α → List Value → Hp → Prop) (inv : List α → Prop) (stop : List α → Hp → Prop) (h0 : inv [])
    (hassign : ∀ x, vcC P tab R assign (fun ρ' ds' h' => ds' = [] ∧ Near h h' ∧ Ent h' h ∧ NA x ρ' h') (fun _ _ _ _ => False) (fun _ _ _ => False) (setsL ps.toList (enc x) ρ) [] h)
    (hbody : ∀ pre x ρ' h', inv pre → NA x ρ' h' → vcC P tab R body (fun _ _ h2 => Ent h2 h ∧ inv (pre ++ [x])) (fun _ _ _ _ => False) (fun _ _ h2 => ∃ hS, Ent h2 hS ∧ Near h hS ∧ stop (pre ++ [x]) hS) ρ' [] h') :
    ∀ w, Own h w → RSat R w → Apart R h → (Code.rangeFunc f ps assign body).wp P (fun e a' w' => ∃ ρ' ds' h', a' = act ρ' ds' ∧ Tr w h w' h' ∧ (match e with
      | .normal => ρ' = ρ ∧ inv xs ∧ ∃ D, ds' = collD D :: ds ∧ h' = h ++ [.obj D (.deferred (some []))]
      | .ret => ρ' = ρ ∧ ∃ pre hS D, pre <+: xs ∧ stop pre hS ∧ ds' = collD D :: ds ∧ h' = hS ++ [.obj D (.deferred (some []))]
      | _ => False)) (act ρ ds) w := by
  intro w own hr ap
  have hRw : RSat (RH R h) w := hr.rh own
  have hlt : ∀ a v, RH R h a v → a.block < w.heap.size := fun a v hv => cell_lt (hRw a v hv)
  have hkeep : ∀ {W W' : World} {h' : Hp}, Tr w h W h → Tr W h W' h' → Ent h' h → RSat (RH R h) W' := fun t s e =>
    (hr.tr ap (t.trans s)).rh (s.ent e).own
  refine (wpIn_wide (n := 4)).1 (wpIn_rangeFunc_ownH (F := Fence.wide) (n := 4) (Q := _) rfl (by omega) (lb := lb.toArray) (by rw [act_eval]; exact hf) trivial (fun args w => run_callFunc_of hcall args w) (hseq w own hr)
    (fun k1 k2 hs => k2 (k1 hs)) (fun W l o o' hl ho _ _ hs a v hv => ?_) (Below.refl _ w) (fun x => by simpa using hps x)
    (fun pre W => inv pre ∧ Tr w h W h) (fun c pre W => c = .ret ∧ ∃ hS, Near h hS ∧ stop pre hS ∧ Tr w h W hS) ?_ ?_ ⟨h0, Tr.refl own⟩
    (fun x a' W => ∃ ρ' h', NA x ρ' h' ∧ a' = act ρ' [] ∧ Near h h' ∧ Ent h' h ∧ Tr w h W h') ?_ ?_ ?_ ?_ ?_)
  · rw [← hs a v hv]
    exact World.cell?_of_block (World.putObj_heap_other (by have := hlt a v hv; omega))
  · rintro pre W W' row ⟨hi, t⟩ hg hrow
    exact ⟨hi, t.grown own (Near.refl h) hg hrow⟩
  · rintro c pre W W' row ⟨hc, hS, hn, hs, t⟩ hg hrow
    exact ⟨hc, hS, hn, hs, t.grown own hn hg hrow⟩
  · rintro x a' _ W W' row ⟨ρ', h', h1, h2, h3, h4, t⟩ hg hrow
    exact ⟨ρ', h', h1, h2, h3, h4, t.grown own h3 hg hrow⟩
  · rintro l pre x W K ⟨hi, t⟩ hK
    have e : ((ps.zip ((fun x => (enc x).toArray) x)).foldl (fun t (p, v) => t.setIfInBounds p v) (act ρ ds).tmps) = (setsL ps.toList (enc x) ρ).toArray := by
      rw [← foldl_sets, ← Array.foldl_toList]
      simp
    rw [e]
    refine vcC_soundIn htab assign hra t.own (hr.tr ap t) (Apart.tr hr ap t) (fun ρ' ds' h' W' hN s => ?_) (fun _ _ _ _ _ hX _ => False.elim hX) (fun _ _ _ _ hX _ => False.elim hX) (hassign x)
    obtain ⟨rfl, h3, h4, h5⟩ := hN
    exact hK _ W' (Tr.keepsFrom own t (Near.refl h) s) (fun _ => hkeep t s h4) ⟨hi, t.trans (s.ent h4)⟩ ⟨ρ', h', h5, rfl, h3, h4, t.trans s⟩
  · rintro l pre x a' W hl hrl ⟨hi, t0⟩ ⟨ρ', h', h1, rfl, h3, h4, t⟩ hlen
    refine vcC_soundIn htab body hrb t.own (hr.tr ap t) (Apart.tr hr ap t) (fun ρ2 ds2 h2 W' hN s => ?_) (fun _ _ _ _ _ hX _ => False.elim hX) (fun ρ2 ds2 h2 W' hN s => ?_) (hbody pre x ρ' h' hi h1)
    · obtain ⟨e, hi2⟩ := hN
      have tt := t.trans (s.ent e)
      exact ⟨Tr.keepsFrom own t h3 s, fun _ => (hr.tr ap tt).rh tt.own, hi2, tt⟩
    · obtain ⟨hS, e, hn, hs⟩ := hN
      exact ⟨Tr.keepsFrom own t h3 s, rfl, hS, hn, hs, t.trans (s.ent e)⟩
  · rintro D ys W hD rfl ⟨hi, t⟩ hk
    exact ⟨ρ, collD D :: ds, _, rfl, t.join own (Near.refl h) hD hk (fun _ _ _ e => by cases e), rfl, hi, D, rfl, rfl⟩
  · rintro D c pre W hD hp ⟨rfl, hS, hn, hs, t⟩ hk
    exact wpIn_ret ⟨ρ, collD D :: ds, _, rfl, t.join own hn hD hk (fun _ _ _ e => by cases e), rfl, pre, hS, D, hp, hs, rfl, rfl⟩

/-! ### an iterator that only reads: its rounds -/
abbrev KontI (α : Type) := List Value → List α → Bool → Prop

def noRd : Rd := fun _ _ => False
def itR (R : Rd) (b : Bool) : Rd := match b with
  | true => R
  | false => noRd

def itOps (P : Program) (tab : Tab) (R : Rd) {α : Type} (enc : α → List Value) (lp N : Nat) (K : KontI α) : List Oper → KontI α
  | [] => K
  | o :: r => fun ρ pre b => o.guard = .none ∧ (match o.op with
      | .call { callee := .value f, args, .. } => evK ρ f fun fv => evsK ρ args.toList fun avs => (match fv with
        | .func (.yield l) first cap => l = lp ∧ first = #[] ∧ cap = #[] ∧ b = true ∧ ∃ x, avs = enc x ∧ pre.length < N ∧
            (putK o.dst (.bool true) ρ fun ρ' => itOps P tab R enc lp N K r ρ' (pre ++ [x]) true) ∧ (putK o.dst (.bool false) ρ fun ρ' => itOps P tab R enc lp N K r ρ' (pre ++ [x]) false)
        | _ => False)
      | op => opQ tab (itR R b) ρ (fun v => putK o.dst v ρ fun ρ' => itOps P tab R enc lp N K r ρ' pre b) op)

def itC (P : Program) (tab : Tab) (R : Rd) {α : Type} (enc : α → List Value) (lp N : Nat) : Code → KontI α → (Nat → KontI α) → KontI α → KontI α
  | .skip, K, _, _ => K
  | .region _ ops draw, K, _, _ => fun ρ pre b => (match draw with
    | false => itOps P tab R enc lp N K ops.toList ρ pre b
    | true => False)
  | .seq a b, K, X, Rt => itC P tab R enc lp N a (fun ρ' p' b' => itC P tab R enc lp N b K X Rt ρ' p' b') X Rt
  | .cond c a b, K, X, Rt => fun ρ pre fl => evK ρ c fun v => (match v with
    | .bool t => (t = true → itC P tab R enc lp N a K X Rt ρ pre fl) ∧ (t = false → itC P tab R enc lp N b K X Rt ρ pre fl)
    | _ => False)
  | .block id c, K, X, Rt => itC P tab R enc lp N c K (fun i => match Nat.beq i id with | true => K | false => X i) Rt
  | .exit id, _, X, _ => X id
  | .ret, _, _, Rt => Rt
  | .loop body, _, X, Rt => fun ρ pre fl => ∃ (M : List (Option Nat)) (S : List Nat) (β : Type) (inv : β → Prop) (fr : β → List Value) (pr : β → List α) (μ : β → Nat) (x0 : β), fl = true ∧ inv x0 ∧ agreeE ρ S (fr x0) ∧ pre = pr x0 ∧
      ∀ x, inv x → ∀ js : Nat → Value, mskK M js 0 ρ fun ρ1 => setsK S (fr x) ρ1 fun ρ2 =>
        itC P tab R enc lp N body (fun ρ' pre' fl' => fl' = true ∧ ∃ y, inv y ∧ μ y < μ x ∧ agreeE ρ' S (fr y) ∧ pre' = pr y ∧ mskK M (fun _ => undef) 0 ρ' fun l' => mskK M (fun _ => undef) 0 ρ fun l => l' = l) X Rt ρ2 (pr x) true
  | _, _, _, _ => fun _ _ _ => False

section iter
variable {P : Program} {tab : Tab} {R : Rd} {α : Type} {enc : α → List Value} {lp N m : Nat} {J Jx : List α → World → Prop}
/-- Where an iterator stands: 'pre' has come; the last round went on, or not. -/
def ItS (R : Rd) (J Jx : List α → World → Prop) (pre : List α) (b : Bool) (W : World) : Prop := match b with
  | true => J pre W ∧ RSat R W
  | false => Jx pre W
theorem ItS.rd {pre : List α} {b : Bool} {W : World} (h : ItS R J Jx pre b W) : RSat (itR R b) W := by
  cases b
  · intro a v hv; exact hv.elim
  · exact h.2

def RoundsOk (P : Program) (R : Rd) (enc : α → List Value) (lp N m : Nat) (J Jx : List α → World → Prop) : Prop :=
  ∀ pre x W, J pre W → pre.length < N → YieldAt Fence.wide m P lp (enc x).toArray W fun e W' => (e = .returned (.bool true) ∧ J (pre ++ [x]) W' ∧ (RSat R W → RSat R W')) ∨ (e = .returned (.bool false) ∧ Jx (pre ++ [x]) W')

theorem itOps_sound (htab : TabOk P tab) (hY : RoundsOk P R enc lp N m J Jx) {all : Array Oper} {K : KontI α} {Q : Exit → Act → World → Prop} {ds : List Deferred} : ∀ (l : List Oper) {ρ : List Value} {pre : List α} {b : Bool} {W : World}, ItS R J Jx pre b W →
    (∀ ρ' pre' b' W', K ρ' pre' b' → ItS R J Jx pre' b' W' → Q .normal (act ρ' ds) W') → itOps P tab R enc lp N K l ρ pre b → wpListIn Fence.wide (m + 1) P all Q l (act ρ ds) W
  | [], ρ, pre, b, W, hs, hn, hE => hn _ _ _ W hE hs
  | o :: r, ρ, pre, b, W, hs, hn, hE => by
    unfold itOps at hE
    obtain ⟨hg, hE⟩ := hE
    have hw : Region.wanted o (yielded all (act ρ ds).tmps) = true := by unfold Region.wanted; rw [hg]
    unfold wpListIn
    rw [if_pos hw]
    refine ⟨fun _ _ => trivial, ?_⟩
    rw [show (Fence.wide).round = .none from rfl, Oper.semAt_none, act_eval]
    obtain ⟨dst, op, type, pos, after, guard⟩ := o
    simp only at hE hg
    split at hE
    · rename_i f args ats
      rw [evK_eq, evsK_eq] at hE
      split at hE <;> first | exact hE.elim | skip
      rename_i l first cap hf
      obtain ⟨hl, rfl, rfl, rfl, x, hx, hlen, h1, h2⟩ := hE
      replace hl := hl.symm
      subst hl
      rw [putK_eq] at h1 h2
      obtain ⟨fn, tmps, assign, body, hy, hR⟩ := hY pre x W hs.1 hlen
      have hrun : (execOp (ev ρ) ⟨dst, .call { callee := .value f, args := args, argTypes := ats }, type, pos, after, guard⟩).run P W = .ok (.round lp fn tmps assign body) W := by
        have e : (args.map (ev ρ)) = (enc x).toArray := by
          rw [← hx]; apply Array.ext'; simp
        simp only [execOp, resolve, Deferred.ofValue, hf, invoke, Sem.run_bind, Sem.run_pure, Result.andThen_ok, e]
        first | exact hy | (simpa using hy)
      rw [hrun]
      refine ⟨fun h => by simp [Fence.wide] at h, hR.mono ?_⟩
      rintro e W' (⟨rfl, hJ, hk⟩ | ⟨rfl, hJ⟩)
      · show wpListIn _ _ _ _ _ _ _ _
        rw [act_putL]
        exact itOps_sound htab hY r (b := true) ⟨hJ, hk hs.2⟩ hn h1
      · show wpListIn _ _ _ _ _ _ _ _
        rw [act_putL]
        exact itOps_sound htab hY r (b := false) hJ hn h2
    · obtain ⟨v, hv, hE⟩ := opQ_sound (P := P) (o := ⟨dst, op, type, pos, after, guard⟩) htab hE
      rw [putK_eq] at hE
      rw [hv W hs.rd]
      show wpListIn _ _ _ _ _ _ _ _
      rw [act_putL]
      exact itOps_sound htab hY r hs hn hE

theorem itC_sound (htab : TabOk P tab) (hY : RoundsOk P R enc lp N m J Jx) {ds : List Deferred} (c : Code) : ∀ {K : KontI α} {X : Nat → KontI α} {Rt : KontI α} {ρ : List Value} {pre : List α} {b : Bool} {W : World} {Q : Exit → Act → World → Prop}, ItS R J Jx pre b W →
    (∀ ρ' pre' b' W', K ρ' pre' b' → ItS R J Jx pre' b' W' → Q .normal (act ρ' ds) W') → (∀ i ρ' pre' b' W', X i ρ' pre' b' → ItS R J Jx pre' b' W' → Q (.exit i) (act ρ' ds) W') → (∀ ρ' pre' b' W', Rt ρ' pre' b' → ItS R J Jx pre' b' W' → Q .ret (act ρ' ds) W') →
    itC P tab R enc lp N c K X Rt ρ pre b → c.wpIn Fence.wide (m + 1) P Q (act ρ ds) W := by
  induction c with
  | skip => intro K X Rt ρ pre b W Q hs hN hX hR hE; exact wpIn_skip (hN _ _ _ W hE hs)
  | exit id => intro K X Rt ρ pre b W Q hs hN hX hR hE; exact wpIn_exit (hX _ _ _ _ W hE hs)
  | ret => intro K X Rt ρ pre b W Q hs hN hX hR hE; exact wpIn_ret (hR _ _ _ W hE hs)
  | region id ops draw =>
    intro K X Rt ρ pre b W Q hs hN hX hR hE
    obtain ⟨l⟩ := ops
    unfold itC at hE
    cases draw with
    | false => exact wpIn_region_lit (itOps_sound htab hY l hs hN hE)
    | true => exact False.elim hE
  | seq a c iha ihb =>
    intro K X Rt ρ pre b W Q hs hN hX hR hE
    exact wpIn_seq (iha hs (fun ρ' p' b' W' hK hs' => ihb hs' hN hX hR hK) hX hR hE)
  | cond x a c iha ihb =>
    intro K X Rt ρ pre b W Q hs hN hX hR hE
    unfold itC at hE
    rw [evK_eq] at hE
    split at hE <;> first | exact hE.elim | skip
    rename_i t hx
    exact wpIn_cond_split (t := t) (by rw [act_eval]; exact hx) (fun ht => iha hs hN hX hR (hE.1 ht)) (fun ht => ihb hs hN hX hR (hE.2 ht))
  | block id c ih =>
    intro K X Rt ρ pre b W Q hs hN hX hR hE
    refine wpIn_block (ih hs hN (fun i ρ' p' b' W' hK hs' => ?_) hR hE)
    simp only [Exit.inBlock]
    by_cases hi : i = id
    · rw [if_pos hi]
      subst hi
      have hb : Nat.beq i i = true := Nat.beq_refl i
      rw [hb] at hK
      exact hN _ _ _ W' hK hs'
    · rw [if_neg hi]
      have hb : Nat.beq i id = false := by
        cases hb : Nat.beq i id
        · rfl
        · exact absurd (Nat.eq_of_beq_eq_true hb) hi
      rw [hb] at hK
      exact hX i _ _ _ W' hK hs'
  | loop body ih =>
    intro K X Rt ρ pre b W Q hs hN hX hR hE
    obtain ⟨M, S, β, inv, fr, pr, μ, x0, rfl, h0, hag, rfl, hround⟩ := hE
    have hasc : ascM M 0 ρ := (mskK_sound _ _ _ _ _ (hround x0 h0 (fun _ => undef))).1
    refine wpIn_loop_ghost (fun n a w' => ∃ x js, inv x ∧ μ x = n ∧ a = act (setsL S (fr x) (mskL M js ρ)) ds ∧ ItS R J Jx (pr x) true w') (μ x0) ⟨x0, valM M ρ, h0, rfl, ?_, hs⟩ ?_
    · rw [mskL_same M 0 ρ ρ hasc rfl, setsL_agree S _ ρ hag]
    · rintro n a w1 ⟨x, js, hx, rfl, rfl, ht⟩
      have hE := (mskK_sound _ _ _ _ _ (hround x hx js)).2
      rw [setsK_eq] at hE
      refine ih ht (fun ρ' p' b' W' hK hs' => ?_) hX hR hE
      obtain ⟨rfl, y, hy, hlt, hag', rfl, hmask⟩ := hK
      have hmask := (mskK_sound _ _ _ _ _ (mskK_sound _ _ _ _ _ hmask).2).2
      refine ⟨μ y, hlt, y, valM M ρ', hy, rfl, ?_, hs'⟩
      rw [mskL_same M 0 ρ ρ' hasc hmask, setsL_agree S _ ρ' hag']
  | _ => intro K X Rt ρ pre b W Q hs hN hX hR hE; exact False.elim hE
end iter

/-- THE ITERATOR'S CONTRACT OUT OF ITS FORMULA. -/
theorem seq_of_it {P : Program} {tab : Tab} (htab : TabOk P tab) {R : Rd} {α : Type} {enc : α → List Value} {xs : List α} {f : FuncId} {fn : Func} {c : Code} {lb : List Value} (hf : P.funcs[f]? = some fn) (hb : fn.body = some c) (hres : fn.results = #[]) (hl : lb.length + 1 ≤ fn.ntmps)
    (hvc : ∀ lp : Nat, iniK fn.ntmps (.func (.yield lp) #[] #[] :: lb) fun ρ => itC P tab R enc lp xs.length c (fun _ pre b => (b = true ∧ pre = xs) ∨ (b = false ∧ pre <+: xs)) (fun _ _ _ _ => False) (fun _ pre b => (b = true ∧ pre = xs) ∨ (b = false ∧ pre <+: xs)) ρ [] true) :
    ∀ w, RSat R w → SeqStopsK Fence.wide 3 P f lb.toArray (fun x => (enc x).toArray) (fun A B => RSat R A → RSat R B) (fun ys => ys = xs) (fun pre => pre <+: xs) xs.length w := by
  intro w hr lp J Jx W hB _ _ hY hJ
  have hvc := hvc lp
  rw [iniK_eq _ _ _ (by simpa using hl)] at hvc
  have hrW : RSat R W := fun a v hv => by
    rw [← hr a v hv]
    exact World.cell?_of_block (hB.block a.block (cell_lt (hr a v hv)))
  refine callsIn_of_wp hf hb trivial ?_
  have e : ((#[Value.func (.yield lp) #[] #[]] ++ lb.toArray) ++ Array.replicate (fn.ntmps - (#[Value.func (.yield lp) #[] #[]] ++ lb.toArray).size) undef) = ((.func (.yield lp) #[] #[] :: lb) ++ List.replicate (fn.ntmps - (Value.func (.yield lp) #[] #[] :: lb).length) undef).toArray := by
    apply Array.ext'; simp
  rw [e]
  have fin : ∀ (ρ' : List Value) (pre : List α) (b : Bool) (W' : World), ((b = true ∧ pre = xs) ∨ (b = false ∧ pre <+: xs)) → ItS R J Jx pre b W' →
      ∃ v, (results fn ρ'.toArray).run P W' = .ok v W' ∧ ((∃ u, Ending.returned v = .returned u) ∧ ((∃ ys, ys = xs ∧ J ys W') ∨ (∃ pre, pre <+: xs ∧ Jx pre W'))) := by
    intro ρ' pre b W' hp hs
    refine ⟨.tuple #[], by simp [results, hres], ⟨_, rfl⟩, ?_⟩
    rcases hp with ⟨rfl, rfl⟩ | ⟨rfl, hp⟩
    · exact .inl ⟨_, rfl, hs.1⟩
    · exact .inr ⟨pre, hp, hs⟩
  refine itC_sound (m := 2) (lp := lp) (J := J) (Jx := Jx) htab (fun pre x W1 h1 h2 => hY pre x W1 h1 h2) c (b := true) ⟨hJ, hrW⟩ (fun ρ' pre b W' hK hs => ?_) (fun _ _ _ _ _ hX _ => False.elim hX) (fun ρ' pre b W' hK hs => ?_) hvc
  · exact ⟨rfl, fin ρ' pre b W' hK hs⟩
  · exact ⟨rfl, fin ρ' pre b W' hK hs⟩

end Go.Proofs.YtgnmbgbiajgpeaaDoor

namespace Go.Proofs.YtgnmbgbiajgpeaaDoor
open Go Go.RowKit
set_option linter.unusedVariables false

theorem vc_rangeK {P : Program} {tab : Tab} (htab : TabOk P tab) {α : Type} {enc : α → List Value} {xs : List α} {R : Rd} {f : Operand} {ps : Array Tmp} {assign body : Code} {ρ : List Value} {ds : List Deferred} {h : Hp} {gf : FuncId} {lb : List Value} {N : Kont} {X : Nat → Kont} {Rt : Kont}
    (hf : ev ρ f = .func (.func gf) #[] lb.toArray) (hcall : Callable P gf) (hps : ∀ x, (enc x).length = ps.size)
    (hseq : ∀ w, RSat (RH R h) w → SeqStopsK Fence.wide 3 P gf lb.toArray (fun x => (enc x).toArray) (fun A B => RSat (RH R h) A → RSat (RH R h) B) (fun ys => ys = xs) (fun pre => pre <+: xs) xs.length w)
    (hra : roundOk assign = true) (hrb : roundOk body = true) (inv : List α → Prop) (stop : List α → Hp → Prop) (h0 : inv [])
    (hround : ∀ x, setsK ps.toList (enc x) ρ fun ρ1 => vcC P tab R assign (fun ρ' ds' h' => ds' = [] ∧ Near h h' ∧ Ent h' h ∧
      ∀ pre, inv pre → vcC P tab R body (fun _ _ h2 => Ent h2 h ∧ inv (pre ++ [x])) (fun _ _ _ _ => False) (fun _ _ h2 => ∃ hS, Ent h2 hS ∧ Near h hS ∧ stop (pre ++ [x]) hS) ρ' [] h') (fun _ _ _ _ => False) (fun _ _ _ => False) ρ1 [] h)
    (hN : inv xs → ∀ D, N ρ (collD D :: ds) (h ++ [.obj D (.deferred (some []))]))
    (hRt : ∀ pre hS, pre <+: xs → stop pre hS → ∀ D, Rt ρ (collD D :: ds) (hS ++ [.obj D (.deferred (some []))])) :
    ∀ w, Own h w → RSat R w → Apart R h → (Code.rangeFunc f ps assign body).wp P (fun e a' w' => ∃ ρ' ds' h', a' = act ρ' ds' ∧ Tr w h w' h' ∧ (match e with
      | .normal => N ρ' ds' h'
      | .exit i => X i ρ' ds' h'
      | .ret => Rt ρ' ds' h'
      | _ => False)) (act ρ ds) w := by
  intro w own hr ap
  refine Code.wp_mono (fun e a' w' hq => ?_) (vc_range htab hf hcall hps (fun w own hr => hseq w (hr.rh own)) hra hrb
    (fun x ρ' h' => ∀ pre, inv pre → vcC P tab R body (fun _ _ h2 => Ent h2 h ∧ inv (pre ++ [x])) (fun _ _ _ _ => False) (fun _ _ h2 => ∃ hS, Ent h2 hS ∧ Near h hS ∧ stop (pre ++ [x]) hS) ρ' [] h')
    inv stop h0 (fun x => by have hx := hround x; rw [setsK_eq] at hx; exact hx) (fun pre x ρ' h' hi hna => hna pre hi) w own hr ap)
  obtain ⟨ρ', ds', h', rfl, ht, hq⟩ := hq
  refine ⟨ρ', ds', h', rfl, ht, ?_⟩
  cases e <;> first | exact False.elim hq | skip
  · obtain ⟨rfl, hi, D, rfl, rfl⟩ := hq
    exact hN hi D
  · obtain ⟨rfl, pre, hS, D, hp, hs, rfl, rfl⟩ := hq
    exact hRt pre hS hp hs D

end Go.Proofs.YtgnmbgbiajgpeaaDoor
