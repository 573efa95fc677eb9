/-
  Operations on maps: their formulas are sound.
-/
import Derived.Test.YtbgfnofjnbpdgaaDoorVcg
import Derived.MapKept
namespace Go.Proofs.YtbgfnofjnbpdgaaDoor
open Go Go.RowKit
set_option linter.unusedSimpArgs false

theorem mapTab_sound {P : Program} {tab : Tab} (htab : TabOk P tab) {T : TypeId} {K : TI → TI → Prop} (h : mapTab tab T K) :
    ∃ kt et ki ei, P.underlying T = some (.map kt et) ∧ TIok P kt ki ∧ TIok P et ei ∧ K ki ei := by
  unfold mapTab at h
  split at h <;> first | exact h.elim | skip
  rename_i ti hti
  split at h <;> first | exact h.elim | skip
  rename_i kt et hk
  split at h <;> first | exact h.elim | skip
  rename_i ki ei hki hei
  have ht := lk_ok htab hti
  obtain ⟨d, hd, hf⟩ := ht.desc
  rw [hk] at hf
  refine ⟨kt, et, ki, ei, ?_, lk_ok htab hki, lk_ok htab hei, h⟩
  rw [hd]
  cases d <;> simp [TK.of] at hf <;> simp_all

theorem keyKind_sound {P : Program} {kt : TypeId} {ki : TI} (hk : TIok P kt ki) {k : Value} (h : keyKind ki.kind k = true) : ∃ d, P.underlying kt = some d ∧ MapKept.IsKey d k ∧ ∀ k', likeKey k k' = true → MapKept.IsKey d k' := by
  unfold keyKind at h
  split at h
  · rename_i a b n hki
    have := kindNo_inj h
    subst this
    refine ⟨_, hk.int hki, rfl, fun k' hl => ?_⟩
    cases k' <;> simp [likeKey] at hl
    exact (kindNo_inj (by rw [hl]; exact Nat.beq_refl _)).symm
  · rename_i s hki
    refine ⟨_, hk.string hki, trivial, fun k' hl => ?_⟩
    cases k' <;> simp [likeKey] at hl
    trivial
  · cases h

theorem sameKey_iff {d : TypeDesc} {a b : Value} (ha : MapKept.IsKey d a) (hb : MapKept.IsKey d b) (hl : likeKey a b = true) : Instr.sameNow d a b = some (sameKey a b) := by
  cases d <;> cases a <;> cases b <;> simp [MapKept.IsKey, likeKey] at ha hb hl ⊢
  · subst ha hb
    simp only [Instr.sameNow, if_true, sameKey]
    first | done | (congr 1; exact Int.beq_decide _ _) | exact congrArg some (Int.beq_decide _ _)
  · rename_i x y
    simp only [Instr.sameNow, sameKey]
    congr 1
    by_cases h : x.data.toList = y.data.toList
    · rw [decide_eq_true h, MapKept.bytes_beq]
      obtain ⟨⟨x⟩⟩ := x
      obtain ⟨⟨y⟩⟩ := y
      simp only at h
      rw [h]
    · rw [decide_eq_false h]
      cases hb : (x == y)
      · rfl
      · exact absurd (by rw [(MapKept.bytes_beq x y).1 hb]) h

theorem findE_sound {d : TypeDesc} {k : Value} (hk : MapKept.IsKey d k) (hl : ∀ k', likeKey k k' = true → MapKept.IsKey d k') : ∀ (l : List MapEntry) (i : Nat), (∀ e ∈ l, likeKey k e.key = true) → Instr.findNow d k l i = some (findE k l i)
  | [], i, _ => rfl
  | e :: l, i, h => by
    have he := h e (by simp)
    unfold Instr.findNow findE
    rw [sameKey_iff hk (hl _ he) he]
    cases sameKey k e.key with
    | true => rfl
    | false => exact findE_sound hk hl l (i + 1) fun x hx => h x (by simp [hx])

theorem findE_shift {k : Value} : ∀ (l : List MapEntry) (i j : Nat) (v : Value), findE k l i = some (j, v) → ∃ m e, j = i + m ∧ l[m]? = some e ∧ e.val = v ∧ sameKey k e.key = true
  | [], i, j, v, h => by cases h
  | e :: l, i, j, v, h => by
    unfold findE at h
    split at h
    · rename_i hs
      simp only [Option.some.injEq, Prod.mk.injEq] at h
      exact ⟨0, e, by omega, rfl, h.2, hs⟩
    · obtain ⟨m, e', h1, h2, h3, h4⟩ := findE_shift l (i + 1) j v h
      exact ⟨m + 1, e', by omega, by simpa using h2, h3, h4⟩

theorem setE_modify (k x : Value) : ∀ (l : List MapEntry) (n : Nat), setE k x l n = l.modify n fun e => { e with key := k, val := x }
  | [], n => by cases n <;> rfl
  | e :: l, 0 => rfl
  | e :: l, n + 1 => by simp [setE, setE_modify k x l n]

theorem same_eq {k k' : Value} (hl : likeKey k k' = true) (hs : sameKey k k' = true) : k' = k := by
  cases k <;> cases k' <;> simp [likeKey, sameKey] at hl hs ⊢
  · exact ⟨(kindNo_inj (by rw [hl]; exact Nat.beq_refl _)).symm, hs.symm⟩
  · rename_i x y
    obtain ⟨⟨x⟩⟩ := x
    obtain ⟨⟨y⟩⟩ := y
    simp only at hs
    rw [hs]

theorem lookE_sound {P : Program} {tab : Tab} (htab : TabOk P tab) {h : Hp} {w : World} (own : Own h w) {T : TypeId} {m k : Value} {ok : Bool} {K : Value → Hp → Prop} (hE : lookE tab h T m k ok K) :
    ∃ v h' w', (Instr.lookup T m k ok).run P w = .ok v w' ∧ Tr w h w' h' ∧ K v h' := by
  obtain ⟨kt, et, ki, ei, hu, hki, hei, hE⟩ := mapTab_sound htab hE
  obtain ⟨hb, hE⟩ := chkB_of hE
  obtain ⟨d, hd, hk, hlike⟩ := keyKind_sound hki hb
  split at hE <;> first | exact hE.elim | skip
  · refine ⟨_, h, w, ?_, Tr.refl own, hE⟩
    unfold Instr.lookup
    simp only [Sem.run_bind, run_underlying hu, Result.andThen_ok, Sem.run_pure, MapKept.run_checkKey hd hk, MapKept.run_findKey hd (show Instr.findNow d k [] 0 = some .none from rfl), run_zero hei]
    cases ok <;> rfl
  · rename_i r
    obtain ⟨i, hE⟩ := hE
    obtain ⟨y, hy, hE⟩ := nthK_eq _ _ _ hE
    split at hE <;> first | exact hE.elim | skip
    rename_i r' es c
    obtain ⟨rfl, hl, h1⟩ := hE
    have hw := (own.all _ (List.mem_of_getElem? hy)).1
    have hf := findE_sound hk hlike es.toList 0 hl
    cases hr : findE k es.toList 0 with
    | none =>
      rw [hr] at hf
      refine ⟨okV ok ei.zero false, h, w, ?_, Tr.refl own, h1 _ _ (.inr ⟨hr, rfl, rfl⟩)⟩
      unfold Instr.lookup
      simp only [Sem.run_bind, run_underlying hu, Result.andThen_ok, Sem.run_pure, MapKept.run_getObj_map hw, MapKept.run_checkKey hd hk, MapKept.run_findKey hd hf, run_zero hei]
      cases ok <;> rfl
    | some p =>
      obtain ⟨j, v⟩ := p
      rw [hr] at hf
      refine ⟨okV ok v true, h, w, ?_, Tr.refl own, h1 _ _ (.inl ⟨j, hr, rfl⟩)⟩
      unfold Instr.lookup
      simp only [Sem.run_bind, run_underlying hu, Result.andThen_ok, Sem.run_pure, MapKept.run_getObj_map hw, MapKept.run_checkKey hd hk, MapKept.run_findKey hd hf]
      cases ok <;> rfl

theorem mupdE_sound {P : Program} {tab : Tab} (htab : TabOk P tab) {h : Hp} {w : World} (own : Own h w) {T : TypeId} {m k x : Value} {K : Value → Hp → Prop} (hE : mupdE tab h T m k x K) :
    ∃ h' w', (Instr.mapUpdate T m k x).run P w = .ok () w' ∧ Tr w h w' h' ∧ K undef h' := by
  obtain ⟨kt, et, ki, ei, hu, hki, hei, hE⟩ := mapTab_sound htab hE
  obtain ⟨hb, hE⟩ := chkB_of hE
  obtain ⟨d, hd, hk, hlike⟩ := keyKind_sound hki hb
  split at hE <;> first | exact hE.elim | skip
  rename_i r
  obtain ⟨i, hE⟩ := hE
  obtain ⟨y, hy, hE⟩ := nthK_eq _ _ _ hE
  split at hE <;> first | exact hE.elim | skip
  rename_i r' es c
  obtain ⟨rfl, hl, h1⟩ := hE
  have hw := (own.all _ (List.mem_of_getElem? hy)).1
  have hf := findE_sound hk hlike es.toList 0 hl
  cases hr : findE k es.toList 0 with
  | none =>
    have hK := h1 _ _ (.inr ⟨hr, rfl, rfl⟩)
    rw [setHK_eq] at hK
    rw [hr] at hf
    refine ⟨_, setBlk w r' (.map ⟨es.toList ++ [⟨k, x, c⟩]⟩ (c + 1)), ?_, Tr.at_ own hy (Tr.setObj_ hw (fun _ _ _ e => by cases e)), hK⟩
    unfold Instr.mapUpdate
    simp only [Sem.run_bind, run_underlying hu, Result.andThen_ok, Sem.run_pure, MapKept.run_getObj_map hw, MapKept.run_checkKey hd hk, MapKept.run_findKey hd hf, MapKept.run_setObj_map _ hw]
    have e : es.push ⟨k, x, c⟩ = ⟨es.toList ++ [⟨k, x, c⟩]⟩ := by apply Array.ext'; simp
    rw [e]; rfl
  | some p =>
    obtain ⟨j, v⟩ := p
    have hK := h1 _ _ (.inl ⟨j, v, hr, rfl, rfl⟩)
    rw [setHK_eq] at hK
    obtain ⟨m, e, hj, he, hv, hs⟩ := findE_shift _ _ _ _ hr
    rw [Nat.zero_add] at hj
    subst hj
    have hkey : e.key = k := same_eq (hl e (List.mem_of_getElem? he)) hs
    rw [hr] at hf
    refine ⟨_, setBlk w r' (.map ⟨setE k x es.toList j⟩ c), ?_, Tr.at_ own hy (Tr.setObj_ hw (fun _ _ _ e => by cases e)), hK⟩
    unfold Instr.mapUpdate
    have hg : ((es[j]?).map (·.key)).getD k = k := by
      rw [← Array.getElem?_toList, he]; exact hkey
    simp only [Sem.run_bind, run_underlying hu, Result.andThen_ok, Sem.run_pure, MapKept.run_getObj_map hw, MapKept.run_checkKey hd hk, MapKept.run_findKey hd hf, hg, MapKept.run_keyThatStays hk, MapKept.run_setObj_map _ hw]
    have e : (es.modify j fun e => { e with key := k, val := x }) = ⟨setE k x es.toList j⟩ := by apply Array.ext'; rw [setE_modify]; simp
    rw [e]; rfl

theorem rangeE_sound {P : Program} {tab : Tab} (htab : TabOk P tab) {h : Hp} {w : World} (own : Own h w) {T : TypeId} {m : Value} {K : Value → Hp → Prop} (hE : rangeE tab h T m K) :
    ∃ v h' w', (Instr.range T m).run P w = .ok v w' ∧ Tr w h w' h' ∧ K v h' := by
  unfold rangeE at hE
  split at hE <;> first | exact hE.elim | skip
  rename_i ti hti
  have ht := lk_ok htab hti
  have hmap : ∀ kt et, ti.kind = .map kt et → P.underlying T = some (.map kt et) := by
    intro kt et hk
    obtain ⟨d, hd, hf⟩ := ht.desc
    rw [hk] at hf
    rw [hd]
    cases d <;> simp [TK.of] at hf <;> simp_all
  split at hE <;> first | exact hE.elim | skip
  · rename_i kt et hk
    have hK := hE w.heap.size
    rw [snocK_eq] at hK
    refine ⟨_, _, w.alloc (.mapIter .none 0 #[] 0), ?_, Tr.new own (Tr.newObj _ (fun _ _ _ e => by cases e)), hK⟩
    unfold Instr.range
    simp only [Sem.run_bind, run_underlying (hmap _ _ hk), Result.andThen_ok, Sem.run_pure]
    rfl
  · rename_i kt et r hk
    obtain ⟨i, hE⟩ := hE
    obtain ⟨y, hy, hE⟩ := nthK_eq _ _ _ hE
    split at hE <;> first | exact hE.elim | skip
    rename_i r' es c
    obtain ⟨rfl, hE⟩ := hE
    have hw := (own.all _ (List.mem_of_getElem? hy)).1
    have hK := hE w.heap.size
    rw [snocK_eq] at hK
    refine ⟨_, _, w.alloc (.mapIter (some r') c #[] c), ?_, Tr.new own (Tr.newObj _ (fun _ _ _ e => by cases e)), hK⟩
    unfold Instr.range
    simp only [Sem.run_bind, run_underlying (hmap _ _ hk), Result.andThen_ok, Sem.run_pure, MapKept.run_getObj_map hw]
    rfl

theorem choose_next {P : Program} (n : Nat) (hn : 0 < n) (w : World) : ∃ (j : Nat) (w1 : World), j < n ∧ (w1 = w ∨ w1 = w.drew) ∧ (choose (.mapNext n)).run P w = .ok j w1 := by
  rw [run_choose_drew]
  cases hq : (Question.mapNext n).forced
  · exact ⟨_, w.drew, Nat.mod_lt _ hn, .inr rfl, rfl⟩
  · exact ⟨0, w, hn, .inl rfl, rfl⟩

theorem nextE_sound {P : Program} {h : Hp} {w : World} (own : Own h w) {it : Value} {ty : TypeId} {K : Value → Hp → Prop} (hE : nextE h it K) :
    ∃ v h' w', (Instr.next it false ty).run P w = .ok v w' ∧ Tr w h w' h' ∧ K v h' := by
  unfold nextE at hE
  split at hE <;> first | exact hE.elim | skip
  rename_i g sp
  obtain ⟨i, hE⟩ := hE
  obtain ⟨y, hy, hE⟩ := nthK_eq _ _ _ hE
  split at hE <;> first | exact hE.elim | skip
  · rename_i g' a b c
    obtain ⟨rfl, hK⟩ := hE
    have hw := own.all _ (List.mem_of_getElem? hy)
    refine ⟨_, h, w, ?_, Tr.refl own, hK⟩
    unfold Instr.next
    simp only [Sem.run_bind, run_getObj hw.1 hw.2, Result.andThen_ok, Sem.run_pure]
    try rfl
  · rename_i g' m since seen last
    obtain ⟨rfl, j, hE⟩ := hE
    obtain ⟨z, hz, hE⟩ := nthK_eq _ _ _ hE
    split at hE <;> first | exact hE.elim | skip
    rename_i m' es c
    obtain ⟨rfl, hborn, h1, h2⟩ := hE
    have hw := own.all _ (List.mem_of_getElem? hy)
    have hwm := own.all _ (List.mem_of_getElem? hz)
    have hgone : (!seen.isEmpty && !es.isEmpty && es.all fun x => decide (x.born ≥ last)) = false := by
      cases hem : es.isEmpty
      · have : ∃ e, e ∈ es.toList := by
          cases hl : es.toList with
          | nil => simp [← Array.isEmpty_toList, hl] at hem
          | cons e l => exact ⟨e, by simp⟩
        obtain ⟨e, he⟩ := this
        have hb := (hborn e he).2
        have : (es.all fun x => decide (x.born ≥ last)) = false := by
          rw [Array.all_eq_false]
          obtain ⟨n, hn⟩ := List.getElem?_of_mem he
          obtain ⟨hlt, heq⟩ := List.getElem?_eq_some_iff.1 hn
          refine ⟨n, by simpa using hlt, ?_⟩
          simp only [Array.getElem_toList] at heq
          rw [heq]
          simp; omega
        rw [this]; simp
      · simp
    have hnew : (es.filter fun e => !seen.contains e.born).filter (fun e => decide (e.born ≥ since)) = #[] := by
      apply Array.eq_empty_of_size_eq_zero
      rw [Array.size_eq_zero_iff, Array.filter_eq_empty_iff]
      intro e he
      have := (hborn e (by simpa using (Array.mem_filter.1 he).1)).1
      simp; omega
    have hold : (es.filter fun e => !seen.contains e.born).filter (fun e => decide (e.born < since)) = es.filter fun e => !seen.contains e.born := by
      rw [Array.filter_eq_self]
      intro e he
      have := (hborn e (by simpa using (Array.mem_filter.1 he).1)).1
      simp; omega
    generalize hL : (es.filter fun e => !seen.contains e.born) = left at hnew hold
    have hcs1 : left.isEmpty = true → (#[none] ++ Array.map some (left ++ #[]) : Array (Option MapEntry)) = #[none] := fun he => by
      have : left = #[] := by simpa using he
      rw [this]; simp
    have hcs2 : (#[] ++ Array.map some (left ++ #[]) : Array (Option MapEntry)) = left.map some := by simp
    have hpos : 0 < (if left.isEmpty then #[none] else left.map some : Array (Option MapEntry)).size := by
      by_cases he : left.isEmpty
      · rw [if_pos he]; simp
      · rw [if_neg he, Array.size_map]
        rcases Nat.eq_zero_or_pos left.size with h0 | h0
        · exact absurd (by simpa using Array.eq_empty_of_size_eq_zero h0) he
        · exact h0
    obtain ⟨n, w1, hn, hw1, hch⟩ := choose_next (P := P) _ hpos w
    have htr : Tr w h w1 h := by
      rcases hw1 with rfl | rfl
      · exact Tr.refl own
      · exact Tr.drew own
    by_cases he : left.isEmpty
    · have hK := h2 fun e hm => by
        have : left = #[] := by simpa using he
        rw [this] at hL
        have := Array.filter_eq_empty_iff.1 hL e (by simpa using hm)
        simpa using this
      rw [if_pos he] at hn hch
      have hn0 : n = 0 := by simpa using hn
      subst hn0
      refine ⟨_, h, w1, ?_, htr, hK⟩
      unfold Instr.next
      simp only [Sem.run_bind, run_getObj hw.1 hw.2, run_getObj hwm.1 hwm.2, Result.andThen_ok, hgone, Bool.false_eq_true, if_false, Sem.run_pure, hL, hold, hnew, if_pos he, hcs1 he, hch]
      rfl
    · rw [if_neg he] at hn hch
      have hln : n < left.size := by simpa using hn
      have hmem : left[n] ∈ left := Array.getElem_mem hln
      have hm2 : left[n] ∈ es.toList ∧ left[n].born ∉ seen.toList := by
        have hm := hmem
        generalize left[n] = q at hm ⊢
        rw [← hL] at hm
        obtain ⟨a, b⟩ := Array.mem_filter.1 hm
        exact ⟨by simpa using a, by simpa using b⟩
      have hK := h1 _ hm2.1 hm2.2
      rw [setHK_eq] at hK
      refine ⟨_, _, setBlk w1 g' (.mapIter (some m') since ⟨seen.toList ++ [left[n].born]⟩ c), ?_, htr.trans (Tr.at_ htr.own hy (Tr.setObj_ (htr.own.all _ (List.mem_of_getElem? hy)).1 (fun _ _ _ e => by cases e))), hK⟩
      unfold Instr.next
      have hget : (left.map some)[n]? = some (some left[n]) := by simp [hln]
      have hw2 := htr.own.all _ (List.mem_of_getElem? hy)
      simp only [Sem.run_bind, run_getObj hw.1 hw.2, run_getObj hwm.1 hwm.2, Result.andThen_ok, hgone, Bool.false_eq_true, if_false, Sem.run_pure, hL, hold, hnew, if_neg he, hcs2, hch, hget, run_setObj hw2.1 hw2.2]
      have e : seen.push left[n].born = ⟨seen.toList ++ [left[n].born]⟩ := by apply Array.ext'; simp
      rw [e]

theorem entryE_sound {P : Program} {h : Hp} {w : World} (own : Own h w) {it : Value} {K : Value → Hp → Prop} (hE : entryE h it K) :
    ∃ v h' w', (Instr.entry it).run P w = .ok v w' ∧ Tr w h w' h' ∧ K v h' := by
  unfold entryE at hE
  split at hE <;> first | exact hE.elim | skip
  rename_i g sp
  obtain ⟨i, hE⟩ := hE
  obtain ⟨y, hy, hE⟩ := nthK_eq _ _ _ hE
  split at hE <;> first | exact hE.elim | skip
  rename_i g' m since seen last
  obtain ⟨rfl, stamp, hst, j, hE⟩ := hE
  obtain ⟨z, hz, hE⟩ := nthK_eq _ _ _ hE
  split at hE <;> first | exact hE.elim | skip
  rename_i m' es c
  obtain ⟨rfl, rfl, e, he, hK⟩ := hE
  have hw := own.all _ (List.mem_of_getElem? hy)
  have hwm := own.all _ (List.mem_of_getElem? hz)
  refine ⟨_, h, w, ?_, Tr.refl own, hK⟩
  have hb : seen.back? = some stamp := by rw [← hst]; simp [Array.getLast?_toList]
  have hf : es.find? (fun x => x.born == stamp) = some e := by rw [← he]; simp [Array.find?_toList]
  unfold Instr.entry
  simp only [Sem.run_bind, run_getObj hw.1 hw.2, run_getObj hwm.1 hwm.2, Result.andThen_ok, Sem.run_pure, hb, hf, bne_self_eq_false, Bool.false_eq_true, if_false]

end Go.Proofs.YtbgfnofjnbpdgaaDoor
