/-
  The contract of sha256.Write.
-/
import Derived.Test.YtbgfnofjnbpdgaaDoorShc
namespace Go.Proofs.YtbgfnofjnbpdgaaDoor
open Go Go.RowKit

theorem sliceBase_zero (A : Option Addr) (cap sz : Nat) : sliceBase A cap 0 sz = A := by
  unfold sliceBase
  split
  · rfl
  · cases A <;> simp [Addr.add]

theorem BsR.sub {R : Rd} {A : Option Addr} {n cap : Nat} {b : List UInt8} (hb : BsR R (.slice A n cap) b) {l h : Nat} (h1 : l ≤ h) (h2 : h ≤ b.length) (hc : b.length ≤ cap) : BsR R (.slice (sliceBase A cap l 1) (h - l) (cap - l)) ((b.drop l).take (h - l)) := by
  have hl : ((b.drop l).take (h - l)).length = h - l := by rw [List.length_take, List.length_drop]; omega
  refine ⟨by rw [BV_length, Nat.mul_one], _, _, by rw [hl], fun j u hu => ?_⟩
  rw [BV, List.getElem?_map] at hu
  cases hj : ((b.drop l).take (h - l))[j]? with
  | none => rw [hj] at hu; cases hu
  | some y =>
    rw [hj] at hu
    simp only [Option.map_some, Option.some.injEq] at hu
    subst hu
    have hjl := (List.getElem?_eq_some_iff.1 hj).1
    rw [List.getElem?_take_of_lt (by omega), List.getElem?_drop] at hj
    obtain ⟨a, rfl, hr⟩ := hb.at_ hj
    refine ⟨a.add (l * 1), ?_, by rw [add_add, Nat.mul_one]; exact hr⟩
    unfold sliceBase
    rw [if_neg (by omega)]; rfl

theorem blocks_snoc {z t : List UInt8} (hz : z.length % 64 = 0) (ht : t.length = 64) : blocks ((z ++ t).length / 64) shaH0 (z ++ t) = compress (blocks (z.length / 64) shaH0 z) t := by
  rw [List.length_append, ht, show (z.length + 64) / 64 = z.length / 64 + 1 by omega, blocks_append _ _ _ _ _ (by omega), blocks, blocks, List.take_of_length_le (by omega)]

/-- the state behind the bytes x -/
def ShaSt (x : List UInt8) (cs : List Value) : Prop :=
  ∃ buf rest, buf.length = 64 ∧ (∀ u ∈ buf, u.oneCell' = true) ∧ buf = BV (x.drop (64 * (x.length / 64))) ++ rest ∧ cs = stC (blocks (x.length / 64) shaH0 x).list buf x.length

theorem stC_len {words : List W32} {buf : List Value} {len : Nat} (hw : words.length = 8) (hb : buf.length = 64) : (stC words buf len)[72]? = some (.int .i64 len) := by
  rw [stC, List.getElem?_append_right (by rw [WV_length]; omega), WV_length, hw, List.getElem?_append_right (by omega), hb]
  rfl
theorem stLen {g : Nat} {t : TypeId} {words : List W32} {buf : List Value} {len : Nat} {n : Nat} {K : HA → Prop} (hw : words.length = 8) (hb : buf.length = 64) (hK : K (.blk g t (stC words buf n))) : stE (.blk g t (stC words buf len)) ⟨g, 72, .none⟩ [.int .i64 n] K := by
  refine ⟨rfl, rfl, by rw [stC_length, hw, hb]; exact Nat.le_refl _, ?_⟩
  have : setRange (stC words buf len) 72 [.int .i64 n] = stC words buf n := by
    show (stC words buf len).set 72 _ = _
    rw [stC, List.set_append_right _ _ (by rw [WV_length]; omega), WV_length, hw, List.set_append_right _ _ (by omega), hb]
    rfl
  show K (.blk g t (setRange (stC words buf len) 72 [.int .i64 n]))
  rw [this]; exact hK
theorem setRange_mid : ∀ (vs pre mid : List Value), vs.length ≤ mid.length → setRange (pre ++ mid) pre.length vs = pre ++ (vs ++ mid.drop vs.length)
  | [], pre, mid, _ => by simp [setRange]
  | v :: vs, pre, [], h => by simp at h
  | v :: vs, pre, m :: mid, h => by
    simp only [setRange]
    rw [List.set_append_right _ _ (Nat.le_refl _)]
    simp only [Nat.sub_self, List.set_cons_zero]
    have := setRange_mid vs (pre ++ [v]) mid (by simpa using h)
    simp only [List.length_append, List.length_singleton, List.append_assoc, List.singleton_append] at this
    rw [this]
    simp
theorem stBuf {g u : Nat} {t : TypeId} {words : List W32} {buf : List Value} {len : Nat} {vs : List Value} {K : HA → Prop} (hw : words.length = 8) (hb : buf.length = 64) (hu : u + vs.length ≤ 64) (hK : K (.blk g t (stC words (buf.take u ++ (vs ++ buf.drop (u + vs.length))) len))) :
    stE (.blk g t (stC words buf len)) ⟨g, 8 + u, .none⟩ vs K := by
  refine ⟨rfl, rfl, ?_, ?_⟩
  · show 8 + u + vs.length ≤ _
    rw [stC_length, hw, hb]; omega
  · show K (.blk g t (setRange (stC words buf len) (8 + u) vs))
    have e : stC words buf len = (WV words ++ buf.take u) ++ (buf.drop u ++ [.int .i64 len]) := by
      rw [stC, List.append_assoc, ← List.append_assoc (buf.take u), List.take_append_drop]
    have hl : (WV words ++ buf.take u).length = 8 + u := by rw [List.length_append, WV_length, hw, List.length_take]; omega
    rw [e, ← hl, setRange_mid _ _ _ (by simp; omega), List.drop_append_of_le_length (by rw [List.length_drop]; omega), List.drop_drop]
    rw [stC] at hK
    simpa using hK

/-- the buffer, full -/
theorem bufR (R : Rd) {g : Nat} {t : TypeId} {words : List W32} {b : List UInt8} {len : Nat} (hw : words.length = 8) (hb : b.length = 64) : BsR (RH R [.blk g t (stC words (BV b) len)]) (.slice (some ⟨g, 8, .none⟩) 64 64) b := by
  refine ⟨by rw [BV_length, Nat.mul_one], _, _, by rw [hb], fun j u hu => ⟨_, rfl, ?_⟩⟩
  have hj := (List.getElem?_eq_some_iff.1 hu).1
  rw [addA_eq, addA_mk]
  refine ld 0 rfl ?_
  rw [stC, List.getElem?_append_right (by rw [WV_length]; omega), WV_length, hw, Nat.add_sub_cancel_left, List.getElem?_append_left hj]
  exact hu

set_option maxRecDepth 100000 in
set_option maxHeartbeats 4000000 in
theorem Write_ok (R : Rd) (hG : ShaG R) (g : Nat) (x y : List UInt8) (A : Option Addr) (cap : Nat) (cs : List Value) (hx : x.length + y.length ≤ 4611686018427387904) (hcap : y.length ≤ cap) (hy : BsR R (.slice A y.length cap) y) (hcs : ShaSt x cs) :
    Fn Tryd.prog 96 [.pointer (some ⟨g, 0, .none⟩), .slice A y.length cap] [.blk g 166 cs] R (fun _ h => ∃ cs', h = [.blk g 166 cs'] ∧ ShaSt (x ++ y) cs') := by
  obtain ⟨buf, rest, hbuf, hone, hbr, rfl⟩ := hcs
  have hdl : (x.drop (64 * (x.length / 64))).length = x.length % 64 := by rw [List.length_drop]; omega
  have hul : x.length % 64 < 64 := Nat.mod_lt _ (by omega)
  have hML := maxLen_eq
  refine fn_of_vc mixed tabOk Tryd.func96 rfl (by kernel_rfl) (Nat.le_of_ble_eq_true rfl) ?_
  refine ⟨_, ld 0 rfl (stC_len rfl hbuf), ?_⟩
  refine ⟨by decide, ?_⟩
  intro z hz; obtain rfl : z = ((x.length % 64 : Nat) : Int) := hz
  refine ⟨_, ld 0 rfl (stC_len rfl hbuf), ?_⟩
  (intro z hz; obtain rfl : z = ((x.length + y.length : Nat) : Int) := (by first | (rw [IntKind.wrap_i64] at hz; omega) | (rw [IntKind.wrap_u64] at hz; omega) | omega); clear hz)
  refine ⟨rfl, rfl, 0, nthK_mk rfl (stLen rfl hbuf ?_)⟩
  refine ⟨fun hb => ?_, fun hb => ?_⟩
  · replace hb := of_decide_eq_true hb
    have hu0 : 0 < x.length % 64 := by omega
    clear hb
    refine ⟨x.length % 64, 64, rfl, rfl, by omega, by omega, ?_⟩
    refine ⟨BV y, (BV_length y).trans (Nat.mul_one _).symm, (hy.rh _).src, BV_one _, fun c hc => .inr ⟨⟨g, 8 + x.length % 64, .none⟩, ?_, 0, nthK_mk rfl (stBuf (vs := (BV y).take (c * 1)) rfl hbuf ?_ ?_)⟩⟩
    · unfold sliceBase
      rw [if_neg (by omega), Option.map_some, addA_eq, addA_mk, addA_mk]
      show some (⟨g, 0 + 8 + x.length % 64 * 1, .none⟩ : Addr) = _
      rw [Nat.mul_one, Nat.zero_add]
    · rw [List.length_take, BV_length]; omega
    have hbt : buf.take (x.length % 64) = BV (x.drop (64 * (x.length / 64))) := by
      rw [hbr, List.take_append_of_le_length (by rw [BV_length]; omega), List.take_of_length_le (by rw [BV_length]; omega)]
    rw [hbt, Nat.mul_one, List.length_take, BV_length, Nat.min_eq_left (show c ≤ y.length by omega), show (BV y).take c = BV (y.take c) by simp [BV, List.map_take]]
    refine ⟨c, y.length, rfl, rfl, by omega, hcap, ?_⟩
    (intro z hz; obtain rfl : z = ((x.length % 64 + c : Nat) : Int) := (by first | (rw [IntKind.wrap_i64] at hz; omega) | (rw [IntKind.wrap_u64] at hz; omega) | omega); clear hz)
    refine ⟨fun hb => ?_, fun hb => ?_⟩
    · replace hb := of_decide_eq_true hb
      have hlt : x.length % 64 + c < 64 := by omega
      have hcy : c = y.length := by omega
      clear hb
      refine ⟨_, Ent.refl _, _, rfl, BV (x.drop (64 * (x.length / 64))) ++ (BV (y.take c) ++ buf.drop (x.length % 64 + c)), buf.drop (x.length % 64 + c), ?_, fun u hu => ?_, ?_, ?_⟩
      rotate_left 3
      · have hq : (x ++ y).length / 64 = x.length / 64 := by rw [List.length_append]; omega
        rw [hq, blocks_take _ _ _ _ (by omega), List.length_append]
      · rw [List.length_append, List.length_append, BV_length, BV_length, List.length_drop, List.length_take, List.length_drop]; omega
      · rcases List.mem_append.1 hu with hu | hu
        · exact allOne_iff (BV_one _) u hu
        · rcases List.mem_append.1 hu with hu | hu
          · exact allOne_iff (BV_one _) u hu
          · exact hone u (List.mem_of_mem_drop hu)
      · have hq : (x ++ y).length / 64 = x.length / 64 := by rw [List.length_append]; omega
        rw [hq, List.drop_append_of_le_length (by omega), BV_append, hcy, List.take_length, List.append_assoc]
    · replace hb := of_decide_eq_false hb
      have hcy : x.length % 64 + c = 64 := by omega
      clear hb
      have hbl : (x.drop (64 * (x.length / 64)) ++ y.take c).length = 64 := by rw [List.length_append, hdl, List.length_take]; omega
      have hbb : BV (x.drop (64 * (x.length / 64))) ++ (BV (y.take c) ++ buf.drop (x.length % 64 + c)) = BV (x.drop (64 * (x.length / 64)) ++ y.take c) := by
        rw [hcy, List.drop_of_length_le (show buf.length ≤ 64 by omega), List.append_nil, BV_append]
      rw [hbb]
      refine ⟨0, 64, rfl, rfl, by omega, by omega, ?_⟩
      refine ⟨[0], _, process_ok _ (hG.rh _) g _ _ (x.length + y.length) (x.drop (64 * (x.length / 64)) ++ y.take c) _ _ (by rw [BV_length]; exact hbl) hbl (by omega) (bufR _ rfl hbl), ?_⟩
      rintro _ _ rfl
      have hy2 := hy.sub (l := c) (h := y.length) (by omega) (Nat.le_refl _) hcap
      rw [show y.length - c = (y.drop c).length by rw [List.length_drop]] at hy2
      rw [List.take_length] at hy2
      have hz0 : (x ++ y.take c).length % 64 = 0 := by rw [List.length_append, List.length_take]; omega
      have hbk : blocks ((x ++ y.take c).length / 64) shaH0 (x ++ y.take c) = compress (blocks (x.length / 64) shaH0 x) (x.drop (64 * (x.length / 64)) ++ y.take c) := by
        have e1 : x ++ y.take c = x.take (64 * (x.length / 64)) ++ (x.drop (64 * (x.length / 64)) ++ y.take c) := by rw [← List.append_assoc, List.take_append_drop]
        have e2 : (x.take (64 * (x.length / 64))).length = 64 * (x.length / 64) := by rw [List.length_take]; omega
        rw [e1, blocks_snoc (by rw [e2]; omega) hbl, e2, show 64 * (x.length / 64) / 64 = x.length / 64 by omega]
        congr 1
        have := blocks_take (x.length / 64) shaH0 (x.take (64 * (x.length / 64))) (x.drop (64 * (x.length / 64))) (by rw [e2]; exact Nat.le_refl _)
        rw [List.take_append_drop] at this
        exact this.symm
      refine ⟨[none, some 1, none, none, none, none, none, none, none, none, none, none, none, none, none, none, none, none, none, none, none, none, none, none, none, none, none, none, none, none, none, none, none, none, none, none, none, none, none, none, none, none, some 42, some 43, some 44, some 45, some 46, some 47, some 48, some 49, some 50], [1], Option Addr × Nat × List UInt8 × List UInt8 × List Value, fun ⟨A, cap, l, z, buf⟩ => BsR R (.slice A l.length cap) l ∧ l.length ≤ cap ∧ x ++ y = z ++ l ∧ z.length % 64 = 0 ∧ buf.length = 64 ∧ (∀ u ∈ buf, u.oneCell' = true),
        fun ⟨A, cap, l, _, _⟩ => [.slice A l.length cap], fun ⟨_, _, _, z, buf⟩ => [.blk g 166 (stC (blocks (z.length / 64) shaH0 z).list buf (x.length + y.length))], fun ⟨_, _, l, _, _⟩ => l.length, (sliceBase A cap c 1, cap - c, y.drop c, x ++ y.take c, BV (x.drop (64 * (x.length / 64)) ++ y.take c)), ⟨hy2, (by rw [List.length_drop]; omega), (by rw [List.append_assoc, List.take_append_drop]), hz0, (by rw [BV_length]; exact hbl), fun u hu => allOne_iff (BV_one _) u hu⟩, ⟨(by rw [List.length_drop]; rfl), trivial⟩, (by show Ent _ [.blk g _ (stC (blocks ((x ++ y.take c).length / 64) shaH0 (x ++ y.take c)).list _ _)]; rw [hbk]; exact Ent.refl _), ?_⟩
      clear hbuf hbr hone
      rintro ⟨A, cap, l, z, buf⟩ ⟨hl, hlc, hxz, hz, hbuf, hone⟩ js
      have hlen : x.length + y.length = z.length + l.length := by rw [← List.length_append, hxz, List.length_append]
      refine ⟨fun hb => ?_, fun hb => ?_⟩
      · replace hb := of_decide_eq_true hb
        have hge : 64 ≤ l.length := by omega
        clear hb
        refine ⟨0, 64, rfl, rfl, by omega, by omega, ?_⟩
        have hb1 := hl.sub (l := 0) (h := 64) (by omega) hge hlc
        have htl : (l.take 64).length = 64 := by rw [List.length_take]; omega
        refine ⟨[0], _, process_ok _ (hG.rh _) g _ buf (x.length + y.length) (l.take 64) _ _ hbuf htl (by omega) ((hb1.rh []).rh _), ?_⟩
        rintro _ _ rfl
        refine ⟨64, l.length, rfl, rfl, hge, hlc, ?_⟩
        have hb2 := hl.sub (l := 64) (h := l.length) hge (Nat.le_refl _) hlc
        rw [show l.length - 64 = (l.drop 64).length by rw [List.length_drop]] at hb2
        rw [List.take_length] at hb2
        refine ⟨rfl, (sliceBase A cap 64 1, cap - 64, l.drop 64, z ++ l.take 64, buf), ⟨hb2, by rw [List.length_drop]; omega, by rw [hxz, List.append_assoc, List.take_append_drop], by rw [List.length_append, htl]; omega, hbuf, hone⟩, by show (l.drop 64).length < l.length; rw [List.length_drop]; omega, ⟨by rw [List.length_drop]; rfl, trivial⟩, ?_, rfl⟩
        show Ent _ [.blk g _ (stC (blocks ((z ++ l.take 64).length / 64) shaH0 (z ++ l.take 64)).list _ _)]
        rw [blocks_snoc hz htl]
        exact Ent.refl _
      · replace hb := of_decide_eq_false hb
        have hlt : l.length < 64 := by omega
        clear hb
        refine ⟨0, 64, rfl, rfl, by omega, by omega, ?_⟩
        refine ⟨BV l, (BV_length l).trans (Nat.mul_one _).symm, (hl.rh _).src, BV_one _, fun c hc => .inr ⟨⟨g, 8 + 0, .none⟩, rfl, 0, nthK_mk rfl (stBuf (vs := (BV l).take (c * 1)) rfl hbuf (by rw [List.length_take, BV_length]; omega) ?_)⟩⟩
        have hcl : c = l.length := by omega
        subst hcl
        have hq : (x ++ y).length / 64 = z.length / 64 := by rw [hxz, List.length_append]; omega
        refine ⟨_, Ent.refl _, _, rfl, buf.take 0 ++ ((BV l).take (l.length * 1) ++ buf.drop (0 + ((BV l).take (l.length * 1)).length)), buf.drop (0 + ((BV l).take (l.length * 1)).length), ?_, fun u hu => ?_, ?_, ?_⟩
        rotate_left 3
        · rw [hq, hxz, blocks_take _ _ _ _ (by omega), List.length_append, ← hlen]
        · rw [List.length_append, List.length_append, List.length_drop, List.length_take, List.length_take, BV_length]; omega
        · rcases List.mem_append.1 hu with hu | hu
          · exact hone u (List.mem_of_mem_take hu)
          · rcases List.mem_append.1 hu with hu | hu
            · exact allOne_iff (BV_one _) u (List.mem_of_mem_take hu)
            · exact hone u (List.mem_of_mem_drop hu)
        · rw [hq, hxz, List.take_zero, List.nil_append, Nat.mul_one, List.take_of_length_le (by rw [BV_length]; exact Nat.le_refl _), show 64 * (z.length / 64) = z.length by omega, List.drop_left]
  · replace hb := of_decide_eq_false hb
    have hu0 : x.length % 64 = 0 := by omega
    clear hb
    refine ⟨[none, some 1, none, none, none, none, none, none, none, none, none, none, none, none, none, none, none, none, none, none, none, none, none, none, none, none, none, none, none, none, none, none, none, none, none, none, none, none, none, none, none, none, some 42, some 43, some 44, some 45, some 46, some 47, some 48, some 49, some 50], [1], Option Addr × Nat × List UInt8 × List UInt8 × List Value, fun ⟨A, cap, l, z, buf⟩ => BsR R (.slice A l.length cap) l ∧ l.length ≤ cap ∧ x ++ y = z ++ l ∧ z.length % 64 = 0 ∧ buf.length = 64 ∧ (∀ u ∈ buf, u.oneCell' = true),
      fun ⟨A, cap, l, _, _⟩ => [.slice A l.length cap], fun ⟨_, _, _, z, buf⟩ => [.blk g 166 (stC (blocks (z.length / 64) shaH0 z).list buf (x.length + y.length))], fun ⟨_, _, l, _, _⟩ => l.length, (A, cap, y, x, buf), ⟨hy, hcap, rfl, hu0, hbuf, hone⟩, ⟨rfl, trivial⟩, Ent.refl _, ?_⟩
    clear hbuf hbr hone
    rintro ⟨A, cap, l, z, buf⟩ ⟨hl, hlc, hxz, hz, hbuf, hone⟩ js
    have hlen : x.length + y.length = z.length + l.length := by rw [← List.length_append, hxz, List.length_append]
    refine ⟨fun hb => ?_, fun hb => ?_⟩
    · replace hb := of_decide_eq_true hb
      have hge : 64 ≤ l.length := by omega
      clear hb
      refine ⟨0, 64, rfl, rfl, by omega, by omega, ?_⟩
      have hb1 := hl.sub (l := 0) (h := 64) (by omega) hge hlc
      have htl : (l.take 64).length = 64 := by rw [List.length_take]; omega
      refine ⟨[0], _, process_ok _ (hG.rh _) g _ buf (x.length + y.length) (l.take 64) _ _ hbuf htl (by omega) ((hb1.rh []).rh _), ?_⟩
      rintro _ _ rfl
      refine ⟨64, l.length, rfl, rfl, hge, hlc, ?_⟩
      have hb2 := hl.sub (l := 64) (h := l.length) hge (Nat.le_refl _) hlc
      rw [show l.length - 64 = (l.drop 64).length by rw [List.length_drop]] at hb2
      rw [List.take_length] at hb2
      refine ⟨rfl, (sliceBase A cap 64 1, cap - 64, l.drop 64, z ++ l.take 64, buf), ⟨hb2, by rw [List.length_drop]; omega, by rw [hxz, List.append_assoc, List.take_append_drop], by rw [List.length_append, htl]; omega, hbuf, hone⟩, by show (l.drop 64).length < l.length; rw [List.length_drop]; omega, ⟨by rw [List.length_drop]; rfl, trivial⟩, ?_, rfl⟩
      show Ent _ [.blk g _ (stC (blocks ((z ++ l.take 64).length / 64) shaH0 (z ++ l.take 64)).list _ _)]
      rw [blocks_snoc hz htl]
      exact Ent.refl _
    · replace hb := of_decide_eq_false hb
      have hlt : l.length < 64 := by omega
      clear hb
      refine ⟨0, 64, rfl, rfl, by omega, by omega, ?_⟩
      refine ⟨BV l, (BV_length l).trans (Nat.mul_one _).symm, (hl.rh _).src, BV_one _, fun c hc => .inr ⟨⟨g, 8 + 0, .none⟩, rfl, 0, nthK_mk rfl (stBuf (vs := (BV l).take (c * 1)) rfl hbuf (by rw [List.length_take, BV_length]; omega) ?_)⟩⟩
      have hcl : c = l.length := by omega
      subst hcl
      have hq : (x ++ y).length / 64 = z.length / 64 := by rw [hxz, List.length_append]; omega
      refine ⟨_, Ent.refl _, _, rfl, buf.take 0 ++ ((BV l).take (l.length * 1) ++ buf.drop (0 + ((BV l).take (l.length * 1)).length)), buf.drop (0 + ((BV l).take (l.length * 1)).length), ?_, fun u hu => ?_, ?_, ?_⟩
      rotate_left 3
      · rw [hq, hxz, blocks_take _ _ _ _ (by omega), List.length_append, ← hlen]
      · rw [List.length_append, List.length_append, List.length_drop, List.length_take, List.length_take, BV_length]; omega
      · rcases List.mem_append.1 hu with hu | hu
        · exact hone u (List.mem_of_mem_take hu)
        · rcases List.mem_append.1 hu with hu | hu
          · exact allOne_iff (BV_one _) u (List.mem_of_mem_take hu)
          · exact hone u (List.mem_of_mem_drop hu)
      · rw [hq, hxz, List.take_zero, List.nil_append, Nat.mul_one, List.take_of_length_le (by rw [BV_length]; exact Nat.le_refl _), show 64 * (z.length / 64) = z.length by omega, List.drop_left]

end Go.Proofs.YtbgfnofjnbpdgaaDoor
