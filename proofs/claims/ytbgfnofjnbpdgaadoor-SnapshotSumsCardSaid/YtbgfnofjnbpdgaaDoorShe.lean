/-
  Contracts of sha256.New, (*State).Sum, Sum, Join.
-/
import Derived.Test.YtbgfnofjnbpdgaaDoorShd
namespace Go.Proofs.YtbgfnofjnbpdgaaDoor
open Go Go.RowKit

/-- A part of the memory is handed to the function; the rest is read. -/
theorem Fn.frame {P : Program} {f : FuncId} {args : List Value} {h k : Hp} {R : Rd} {Post : Value → Hp → Prop} (c : Fn P f args h (RH R k) Post) : Fn P f args (h ++ k) R (fun v h' => ∃ h1, h' = k ++ h1 ∧ Post v h1) :=
  ⟨c.1, fun w o r a => (c.2 w o.left (fun ad v hv => by
      rcases hv with hv | ⟨x, hx, hc⟩
      · exact r ad v hv
      · exact HA.cell_sound (o.all x (List.mem_append_right _ hx)) hc) (a.rh o)).mono fun _ _ ⟨v, h1, he, hq, t⟩ => ⟨v, k ++ h1, he, ⟨h1, rfl, hq⟩, (Tr.refl o).frame (List.Perm.refl _) t⟩⟩
/-- The length of a row of the call's own is at most its capacity. -/
theorem fn_row {P : Program} {f : FuncId} {args : List Value} {h : Hp} {R : Rd} {Post : Value → Hp → Prop} (i : Nat) {A : Option Addr} {n cap : Nat} {e : TypeId} {sz : Nat} {xs : List Value} {fz : Nat × Nat} (hi : h[i]? = some (.row A n cap e sz xs fz)) (hc : Callable P f)
    (hF : n ≤ cap → cap ≤ maxLen → Fn P f args h R Post) : Fn P f args h R Post :=
  fn_pure hc (fun _ o => row_cap o i hi) fun h => hF h.1 h.2

/-- bytes of a slice, from its memory: each row of cells -/
theorem SlR.slice {R : Rd} {sz : Nat} {v : Value} {n : Nat} {xs : List Value} (h : SlR R sz v n xs) : ∃ A cap, v = .slice A n cap := by
  obtain ⟨_, A, cap, rfl, _⟩ := h
  exact ⟨A, cap, rfl⟩

theorem New_ok (R : Rd) (hG : ShaG R) : Fn Tryd.prog 95 [] [] R (fun v h => ∃ g cs, v = .pointer (some ⟨g, 0, .none⟩) ∧ h = [.blk g 166 cs] ∧ ShaSt [] cs) := by
  refine fn_of_vc mixed tabOk Tryd.func95 rfl (by kernel_rfl) (Nat.le_of_ble_eq_true rfl) ?_
  refine ⟨WV shaH0.list, (hG.rh _).h, rfl, ?_⟩
  intro g
  refine ⟨_, Ent.refl _, g, _, rfl, rfl, List.replicate 64 (.int .u8 0), List.replicate 64 (.int .u8 0), by simp, fun u hu => by rw [List.eq_of_mem_replicate hu]; rfl, rfl, rfl⟩

theorem setRange_all {vs cs : List Value} (h : vs.length = cs.length) : setRange cs 0 vs = vs := by
  have := setRange_mid vs [] cs (by omega)
  simp only [List.nil_append, List.length_nil, List.drop_of_length_le (show cs.length ≤ vs.length by omega), List.append_nil] at this
  exact this

theorem be64_take {n j : Nat} (hj : j < 8) : (be64 n)[j]? = some (UInt8.ofNat (n / 2 ^ (56 - 8 * j))) := by
  have : j = 0 ∨ j = 1 ∨ j = 2 ∨ j = 3 ∨ j = 4 ∨ j = 5 ∨ j = 6 ∨ j = 7 := by omega
  rcases this with rfl | rfl | rfl | rfl | rfl | rfl | rfl | rfl <;> simp [be64]

theorem u64_shr {n s : Nat} (hs : s ≤ 64) {z : Int} (h : z = ((n : Nat) : Int).fdiv (2 ^ (min (Int.toNat (s : Int)) IntKind.u64.bits))) : z = ((n / 2 ^ s : Nat) : Int) := by
  have e : min (Int.toNat (s : Int)) IntKind.u64.bits = s := by simp [IntKind.bits]; omega
  rw [h, e, Int.fdiv_eq_ediv_of_nonneg _ (Int.le_of_lt (Int.pow_pos (by omega)))]
  simp
theorem u8_of {n : Nat} {z : Int} (h : z = IntKind.u8.wrap (n : Int)) : z = ((UInt8.ofNat n).toNat : Int) := by
  rw [h, IntKind.wrap_u8, UInt8.toNat_ofNat']
  omega
theorem BV_one1 (b : UInt8) : BV [b] = [.int .u8 b.toNat] := rfl

/-- what the words give, so far -/
def dig (s : S8) (i : Nat) : List UInt8 := (s.list.take i).flatMap W32.bytes
theorem dig_succ (s : S8) {i : Nat} (h : i < 8) : dig s (i + 1) = dig s i ++ (s.list.getD i 0).bytes := by
  rw [dig, List.take_add_one, S8.get_of_lt s h, List.flatMap_append]
  simp [dig]
theorem dig_length (s : S8) : ∀ i, i ≤ 8 → (dig s i).length = 4 * i
  | 0, _ => rfl
  | i + 1, h => by rw [dig_succ s (by omega), List.length_append, dig_length s i (by omega)]; show 4 * i + 4 = _; omega
theorem dig_full (s : S8) : dig s 8 = s.bytes := rfl

set_option maxRecDepth 100000 in
set_option maxHeartbeats 4000000 in
theorem StSum_ok (R : Rd) (hG : ShaG R) (g : Nat) (x : List UInt8) (cs : List Value) (hx : x.length ≤ 1152921504606846976) (hcs : ShaSt x cs) :
    Fn Tryd.prog 97 [.pointer (some ⟨g, 0, .none⟩)] [.blk g 166 cs] R (fun v h => v = .string ⟨⟨sha x⟩⟩ ∧ h = [.blk g 166 cs]) := by
  obtain ⟨buf, rest, hbuf, hone, hbr, rfl⟩ := hcs
  have hML := maxLen_eq
  have hcl : (stC (blocks (x.length / 64) shaH0 x).list buf x.length).length = 73 := by rw [stC_length, S8.list_length, hbuf]
  have hall : allOne (stC (blocks (x.length / 64) shaH0 x).list buf x.length) = true := allOne_of fun u hu => by
    rw [stC] at hu
    rcases List.mem_append.1 hu with hu | hu
    · obtain ⟨w, _, rfl⟩ := List.mem_map.1 hu; rfl
    · rcases List.mem_append.1 hu with hu | hu
      · exact hone u hu
      · rw [List.mem_singleton.1 hu]; rfl
  refine fn_of_vc mixed tabOk Tryd.func97 rfl (by kernel_rfl) (Nat.le_of_ble_eq_true rfl) ?_
  refine ⟨stC (blocks (x.length / 64) shaH0 x).list buf x.length, rdPre (ys := []) 0 (by rw [List.append_nil]; rfl), hcl, ?_⟩
  intro g3
  refine ⟨hcl, hall, 1, rfl, rfl, Nat.le_of_eq (by show 0 + (stC _ _ _).length = _; rw [hcl]; rfl), ?_⟩
  show setHK (.blk g3 _ (setRange _ 0 (stC (blocks (x.length / 64) shaH0 x).list buf x.length))) 1 _ _
  rw [setRange_all (by rw [hcl]; rfl)]
  refine ⟨rfl, fun g4 => ?_⟩
  refine ⟨[none, none, none, none, some 4, none, none, none, none, none, none, none, none, none, some 14, some 15, some 16, some 17, some 18, some 19, some 20, some 21, some 22, some 23, some 24, some 25], [4], Option Addr × Nat × Nat, fun ⟨A, cap, k⟩ => grow (k + 1) A ∧ k ≤ padZ x.length, fun ⟨A, cap, k⟩ => [.slice A (k + 1) cap],
    fun ⟨A, cap, k⟩ => [.blk g 166 (stC (blocks (x.length / 64) shaH0 x).list buf x.length), .blk g3 166 (stC (blocks (x.length / 64) shaH0 x).list buf x.length), .row A (k + 1) cap 5 1 (BV (128 :: List.replicate k 0)) (0, 0)], fun ⟨A, cap, k⟩ => padZ x.length - k,
    (some ⟨g4, 0, .none⟩, 1, 0), ⟨.inr ⟨g4, rfl⟩, Nat.zero_le _⟩, ⟨rfl, trivial⟩, Ent.refl _, ?_⟩
  rintro ⟨A, cap, k⟩ ⟨hg, hk⟩ js
  have hpz := padZ_lt x.length
  refine ⟨_, ld 0 rfl (stC_len rfl hbuf), ?_⟩
  (intro z hz; obtain rfl : z = ((x.length + (k + 1) : Nat) : Int) := (by first | (rw [IntKind.wrap_i64] at hz; omega) | (rw [IntKind.wrap_u64] at hz; omega) | omega); clear hz)
  refine ⟨by decide, ?_⟩
  intro z hz; obtain rfl : z = (((x.length + (k + 1)) % 64 : Nat) : Int) := hz
  refine ⟨fun hb => ?_, fun hb => ?_⟩
  · replace hb := of_decide_eq_false (Bool.not_eq_true' _ ▸ hb)
    have hlt : k < padZ x.length := by unfold padZ at hk hpz ⊢; omega
    clear hb
    refine ⟨rfl, fun g5 => ?_⟩
    refine ⟨BV [0], rfl, rdRow 3 rfl, rfl, by show (_ + _) * 1 ≤ _; omega, by omega, .inr ⟨2, rfl, rfl, rfl, rfl, rfl, rfl, fun A' cap' hg' => ?_⟩⟩
    refine ⟨rfl, (A', cap', k + 1), ⟨hg', hlt⟩, by show padZ x.length - (k + 1) < padZ x.length - k; omega, ⟨rfl, trivial⟩, ?_, rfl⟩
    have e : BV (128 :: List.replicate k 0) ++ BV [0] = BV (128 :: List.replicate (k + 1) 0) := by
      rw [← BV_append, List.cons_append, ← List.replicate_succ' (n := k)]
    show Ent [_, _, .row A' (k + 1 + 1) cap' _ 1 (BV (128 :: List.replicate k 0) ++ BV [0]) _, _] _
    rw [e]
    exact Ent.drop [_, _, _] [_]
  · replace hb := of_decide_eq_true (Bool.not_eq_false' _ ▸ hb)
    have hkz : k = padZ x.length := by unfold padZ at hk hpz ⊢; omega
    subst hkz
    clear hb
    refine ⟨_, ld 0 rfl (stC_len rfl hbuf), ?_⟩
    (intro z hz; obtain rfl : z = ((x.length : Nat) : Int) := (by first | (rw [IntKind.wrap_i64] at hz; omega) | (rw [IntKind.wrap_u64] at hz; omega) | omega); clear hz)
    (intro z hz; obtain rfl : z = ((8 * x.length : Nat) : Int) := (by first | (rw [IntKind.wrap_i64] at hz; omega) | (rw [IntKind.wrap_u64] at hz; omega) | omega); clear hz)
    refine ⟨[none, none, none, none, some 4, none, some 6, none, none, none, none, none, none, none, none, none, none, none, none, none, none, none, none, none, none, none, none, none, none, none, none, none, some 32, some 33, some 34, some 35, some 36, some 37, some 38, some 39, some 40, some 41, some 42], [4, 6], Option Addr × Nat × Nat, fun ⟨A, cap, j⟩ => grow (padZ x.length + 1 + j) A ∧ j ≤ 8, fun ⟨A, cap, j⟩ => [.slice A (padZ x.length + 1 + j) cap, .int .i64 (56 - 8 * (j : Int))],
      fun ⟨A, cap, j⟩ => [.blk g 166 (stC (blocks (x.length / 64) shaH0 x).list buf x.length), .blk g3 166 (stC (blocks (x.length / 64) shaH0 x).list buf x.length), .row A (padZ x.length + 1 + j) cap 5 1 (BV (128 :: (List.replicate (padZ x.length) 0 ++ (be64 (8 * x.length)).take j))) (0, 0)], fun ⟨A, cap, j⟩ => 8 - j,
      (A, cap, 0), ⟨hg, Nat.zero_le _⟩, ⟨rfl, rfl, trivial⟩, by simp only [List.take_zero, List.append_nil]; exact Ent.refl _, ?_⟩
    clear hg hk
    rintro ⟨A, cap, j⟩ ⟨hg, hj⟩ js2
    refine ⟨fun hb => ?_, fun hb => ?_⟩
    · replace hb := of_decide_eq_true hb
      have hj8 : j < 8 := by omega
      clear hb
      have e56 : (56 - 8 * (j : Int)) = ((56 - 8 * j : Nat) : Int) := by omega
      rw [e56]
      refine ⟨by omega, ?_⟩
      intro z hz
      obtain rfl := u64_shr (by omega) hz
      clear hz
      intro z hz
      obtain rfl := u8_of hz
      clear hz
      refine ⟨rfl, fun g5 => ?_⟩
      refine ⟨BV [UInt8.ofNat (8 * x.length / 2 ^ (56 - 8 * j))], rfl, rdRow 3 rfl, rfl, by show (_ + _) * 1 ≤ _; omega, by omega, .inr ⟨2, rfl, rfl, rfl, rfl, rfl, rfl, fun A' cap' hg' => ?_⟩⟩
      intro z hz
      obtain rfl : z = 56 - 8 * ((j + 1 : Nat) : Int) := by rw [IntKind.wrap_i64] at hz; omega
      clear hz
      refine ⟨rfl, (A', cap', j + 1), ⟨hg', hj8⟩, by show 8 - (j + 1) < 8 - j; omega, ⟨rfl, rfl, trivial⟩, ?_, rfl⟩
      have e : BV (128 :: (List.replicate (padZ x.length) 0 ++ (be64 (8 * x.length)).take j)) ++ BV [UInt8.ofNat (8 * x.length / 2 ^ (56 - 8 * j))] = BV (128 :: (List.replicate (padZ x.length) 0 ++ (be64 (8 * x.length)).take (j + 1))) := by
        rw [← BV_append, List.take_add_one, be64_take hj8]; simp
      show Ent [_, _, .row A' (padZ x.length + 1 + j + 1) cap' _ 1 (_ ++ BV [UInt8.ofNat (8 * x.length / 2 ^ (56 - 8 * j))]) _, _] _
      rw [e]
      exact Ent.drop [_, _, _] [_]
    · replace hb := of_decide_eq_false hb
      obtain rfl : j = 8 := by omega
      clear hb
      have hpad : 128 :: (List.replicate (padZ x.length) 0 ++ (be64 (8 * x.length)).take 8) = padOf x.length := by
        rw [padOf, Nat.mod_eq_of_lt (show 8 * x.length < 2 ^ 64 by omega)]; rfl
      have hpl : padZ x.length + 1 + 8 = (padOf x.length).length := by rw [padOf_length]; omega
      have hW : ∀ R' : Rd, ShaG R' → BsR R' (.slice A (padOf x.length).length cap) (padOf x.length) → (padOf x.length).length ≤ cap → Fn Tryd.prog 96 [.pointer (some ⟨g3, 0, .none⟩), .slice A (padZ x.length + 1 + 8) cap] [.blk g3 166 (stC (blocks (x.length / 64) shaH0 x).list buf x.length)] R' (fun _ h => ∃ cs', h = [.blk g3 166 cs'] ∧ ShaSt (x ++ padOf x.length) cs') := fun R' h1 h2 h3 => by
        rw [hpl]
        exact Write_ok R' h1 g3 x (padOf x.length) A cap _ (by omega) h3 h2 ⟨buf, rest, hbuf, hone, hbr, rfl⟩
      refine ⟨[1, 1], _, fn_row 1 rfl (callable Tryd.func96 rfl (by kernel_rfl)) fun hcap _ => Fn.frame (h := [_]) (k := [_]) (hW _ ((hG.rh _).rh _) (by rw [← hpl]; exact BsR.own 0 rfl hpl (by rw [hpad]) hg) (by omega)), ?_⟩
      rintro _ _ ⟨_, rfl, cs', rfl, buf', rest', hbuf', hone', hbr', rfl⟩
      refine ⟨by decide, by decide, by decide, by omega, fun g5 => ?_⟩
      refine ⟨WV (blocks ((x ++ padOf x.length).length / 64) shaH0 (x ++ padOf x.length)).list, rdPre 2 rfl, rfl, ?_⟩
      generalize hsE : blocks ((x ++ padOf x.length).length / 64) shaH0 (x ++ padOf x.length) = s
      refine ⟨[none, none, none, none, none, none, none, some 7, none, some 9, none, none, none, none, none, none, none, none, none, none, none, none, none, none, none, none, none, none, none, none, none, none, none, none, none, none, none, none, none, none, none, none, none, none, none, none, none, none, some 48, some 49, some 50, some 51, some 52, some 53, some 54, some 55, some 56, some 57, some 58, some 59, some 60, some 61, some 62, some 63, some 64, some 65], [48, 7], Nat × Option Addr × Nat, fun ⟨i, A, cap⟩ => i ≤ 8 ∧ grow (4 * i) A, fun ⟨i, A, cap⟩ => [.int .i64 i, .slice A (4 * i) cap],
        fun ⟨i, A2, cap2⟩ => [.blk g 166 (stC (blocks (x.length / 64) shaH0 x).list buf x.length), .row A (padZ x.length + 1 + 8) cap 5 1 (BV (128 :: (List.replicate (padZ x.length) 0 ++ (be64 (8 * x.length)).take 8))) (0, 0), .blk g3 166 (stC s.list buf' (x ++ padOf x.length).length), .row A2 (4 * i) cap2 5 1 (BV (dig s i)) (0, 0)],
        fun ⟨i, _, _⟩ => 8 - i, (0, some ⟨g5, 0, .none⟩, 32), ⟨Nat.zero_le _, .inl rfl⟩, ⟨rfl, rfl, trivial⟩, Ent.refl _, ?_⟩
      rintro ⟨i, A2, cap2⟩ ⟨hi, hg2⟩ js3
      refine ⟨fun hb => ?_, fun hb => ?_⟩
      · replace hb := of_decide_eq_true hb
        have hi8 : i < 8 := by omega
        clear hb
        refine ⟨by omega, by omega, nthK_mk (x := .int .u32 (s.list.getD i 0).toNat) (by show (WV s.list)[Int.toNat (i : Int) * 1]? = _; rw [toNat1]; exact WV_get (S8.get_of_lt s hi8)) ?_⟩
        (refine ⟨by decide, ?_⟩; intro z hz; obtain rfl := bv_shr (n := 24) (by omega) hz; clear hz)
        intro z hz; obtain rfl := bv_u8 hz; clear hz
        (refine ⟨by decide, ?_⟩; intro z hz; obtain rfl := bv_shr (n := 16) (by omega) hz; clear hz)
        intro z hz; obtain rfl := bv_u8 hz; clear hz
        (refine ⟨by decide, ?_⟩; intro z hz; obtain rfl := bv_shr (n := 8) (by omega) hz; clear hz)
        intro z hz; obtain rfl := bv_u8 hz; clear hz
        intro z hz; obtain rfl := bv_u8' hz; clear hz
        refine ⟨rfl, fun g6 => ?_⟩
        refine ⟨BV (s.list.getD i 0).bytes, rfl, rdRow 4 rfl, BV_one _, by show (_ + _) * 1 ≤ _; omega, by omega, .inr ⟨3, rfl, rfl, rfl, rfl, rfl, rfl, fun A' cap' hg' => ?_⟩⟩
        (intro z hz; obtain rfl : z = ((i + 1 : Nat) : Int) := (by first | (rw [IntKind.wrap_i64] at hz; omega) | (rw [IntKind.wrap_u64] at hz; omega) | omega); clear hz)
        refine ⟨rfl, (i + 1, A', cap'), ⟨hi8, hg'⟩, by show 8 - (i + 1) < 8 - i; omega, ⟨rfl, rfl, trivial⟩, ?_, rfl⟩
        show Ent [_, _, _, .row A' (4 * i + 4) cap' _ 1 (BV (dig s i) ++ BV (s.list.getD i 0).bytes) _, _] [_, _, _, .row A' (4 * (i + 1)) cap' _ 1 (BV (dig s (i + 1))) _]
        rw [← BV_append, dig_succ s hi8]
        exact Ent.drop [_, _, _, _] [_]
      · replace hb := of_decide_eq_false hb
        obtain rfl : i = 8 := by omega
        clear hb
        have hdl := dig_length s 8 (Nat.le_refl _)
        refine ⟨dig s 8, hdl, fun j b hj => (BsR.own (bs := dig s 8) 3 rfl hdl.symm rfl hg2).at_ hj, ?_⟩
        refine ⟨_, Ent.drop [_] [_, _, _], ?_, rfl⟩
        rw [dig_full, ← hsE]
        rfl

theorem Sum_ok (R : Rd) (hG : ShaG R) (x : List UInt8) (A : Option Addr) (cap : Nat) (hx : x.length ≤ 1152921504606846976) (hcap : x.length ≤ cap) (hs : BsR R (.slice A x.length cap) x) :
    Fn Tryd.prog 74 [.slice A x.length cap] [] R (fun v h => v = .string ⟨⟨sha x⟩⟩ ∧ h = []) := by
  refine fn_of_vc mixed tabOk Tryd.func74 rfl (by kernel_rfl) (Nat.le_of_ble_eq_true rfl) ?_
  refine ⟨[], _, New_ok _ (hG.rh _), ?_⟩
  rintro _ _ ⟨g, cs, rfl, rfl, hcs⟩
  refine ⟨[0], _, Write_ok _ (hG.rh _) g [] x A cap cs (by simp; omega) hcap (hs.rh _) hcs, ?_⟩
  rintro _ _ ⟨cs', rfl, hcs'⟩
  refine ⟨[0], _, StSum_ok _ (hG.rh _) g x cs' hx hcs', ?_⟩
  rintro _ _ ⟨rfl, rfl⟩
  exact ⟨_, Ent.drop [] [_], rfl, rfl⟩

/-- Texts as cells. -/
def SV (l : List (List UInt8)) : List Value := l.map fun s => .string ⟨⟨s⟩⟩
theorem SV_length (l : List (List UInt8)) : (SV l).length = l.length := by simp [SV]
theorem SV_get {l : List (List UInt8)} {i : Nat} {s : List UInt8} (h : l[i]? = some s) : (SV l)[i]? = some (.string ⟨⟨s⟩⟩) := by simp [SV, h]
theorem SV_append (a b : List (List UInt8)) : SV (a ++ b) = SV a ++ SV b := by simp [SV]
/-- A slice of texts. -/
def SsR (R : Rd) (v : Value) (l : List (List UInt8)) : Prop := SlR R 1 v l.length (SV l)
theorem SsR.rh {R : Rd} {v : Value} {l : List (List UInt8)} (h : SsR R v l) (hp : Hp) : SsR (RH R hp) v l := SlR.rh h hp
theorem SsR.mono {R R' : Rd} {v : Value} {l : List (List UInt8)} (h : SsR R v l) (hr : ∀ a v, R a v → R' a v) : SsR R' v l := SlR.mono h hr
theorem SsR.form {R : Rd} {v : Value} {l : List (List UInt8)} (h : SsR R v l) : ∃ A cap, v = .slice A l.length cap := SlR.slice h
theorem SsR.at_ {R : Rd} {A : Option Addr} {n cap : Nat} {l : List (List UInt8)} (h : SsR R (.slice A n cap) l) {i : Nat} {s : List UInt8} (hb : l[i]? = some s) : ∃ a, A = some a ∧ R (a.add i) (.string ⟨⟨s⟩⟩) := by
  obtain ⟨_, A', cap', hv, hr⟩ := h
  cases hv
  exact hr i _ (SV_get hb)
theorem SsR.one {R : Rd} {A : Option Addr} {n cap : Nat} {l : List (List UInt8)} (h : SsR R (.slice A n cap) l) {i : Nat} (hi : i < l.length) : ∃ a, A = some a ∧ R (addA a (Int.toNat (i : Int) * 1)) (.string ⟨⟨l.getD i []⟩⟩) := by
  have hb : l[i]? = some (l.getD i []) := by rw [List.getD_eq_getElem?_getD, List.getElem?_eq_getElem hi]; rfl
  obtain ⟨a, ha, hr⟩ := h.at_ hb
  exact ⟨a, ha, by rw [toNat1, ← addA_eq]; exact hr⟩
theorem SsR.src {R : Rd} {A : Option Addr} {n cap : Nat} {l : List (List UInt8)} (h : SsR R (.slice A n cap) l) : ∀ j u, (SV l)[j]? = some u → ∃ a, A = some a ∧ R (a.add j) u := by
  obtain ⟨_, A', cap', hv, hr⟩ := h
  cases hv
  exact hr
theorem SV_one (l : List (List UInt8)) : allOne (SV l) = true := allOne_of fun u hu => by
  obtain ⟨b, _, rfl⟩ := List.mem_map.1 hu; rfl

/-- the bytes of the first texts -/
def cat (l : List (List UInt8)) : List UInt8 := l.flatten

end Go.Proofs.YtbgfnofjnbpdgaaDoor
