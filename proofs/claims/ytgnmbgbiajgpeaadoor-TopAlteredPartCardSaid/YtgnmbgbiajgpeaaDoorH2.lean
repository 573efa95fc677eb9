/-
  Contracts of the reference of SHA-256: a block.
-/
import Derived.Test.YtgnmbgbiajgpeaaDoorH1
namespace Go.Proofs.YtgnmbgbiajgpeaaDoor
open Go Go.RowKit

theorem WV_one (l : List W32) : allOne (WV l) = true := allOne_of fun u hu => by
  obtain ⟨b, _, rfl⟩ := List.mem_map.1 hu; rfl
def kW : List W32 := shaK.map (BitVec.ofNat 32)
theorem kW_get {t : Nat} (h : t < 64) : kW[t]? = some (shaK_at t) := by
  have hl : shaK.length = 64 := rfl
  rw [kW, List.getElem?_map, List.getElem?_eq_getElem (by omega), shaK_at, List.getD_eq_getElem?_getD, List.getElem?_eq_getElem (by omega)]
  rfl

def kV : List Value := [.int .u32 1116352408, .int .u32 1899447441, .int .u32 3049323471, .int .u32 3921009573, .int .u32 961987163, .int .u32 1508970993, .int .u32 2453635748, .int .u32 2870763221, .int .u32 3624381080, .int .u32 310598401, .int .u32 607225278, .int .u32 1426881987, .int .u32 1925078388, .int .u32 2162078206, .int .u32 2614888103, .int .u32 3248222580, .int .u32 3835390401, .int .u32 4022224774, .int .u32 264347078, .int .u32 604807628, .int .u32 770255983, .int .u32 1249150122, .int .u32 1555081692, .int .u32 1996064986, .int .u32 2554220882, .int .u32 2821834349, .int .u32 2952996808, .int .u32 3210313671, .int .u32 3336571891, .int .u32 3584528711, .int .u32 113926993, .int .u32 338241895, .int .u32 666307205, .int .u32 773529912, .int .u32 1294757372, .int .u32 1396182291, .int .u32 1695183700, .int .u32 1986661051, .int .u32 2177026350, .int .u32 2456956037, .int .u32 2730485921, .int .u32 2820302411, .int .u32 3259730800, .int .u32 3345764771, .int .u32 3516065817, .int .u32 3600352804, .int .u32 4094571909, .int .u32 275423344, .int .u32 430227734, .int .u32 506948616, .int .u32 659060556, .int .u32 883997877, .int .u32 958139571, .int .u32 1322822218, .int .u32 1537002063, .int .u32 1747873779, .int .u32 1955562222, .int .u32 2024104815, .int .u32 2227730452, .int .u32 2361852424, .int .u32 2428436474, .int .u32 2756734187, .int .u32 3204031479, .int .u32 3329325298]
theorem kV_eq : kV = WV kW := by kernel_rfl

end Go.Proofs.YtgnmbgbiajgpeaaDoor

namespace Go.Proofs.YtgnmbgbiajgpeaaDoor
open Go Go.RowKit

/-- What the memory that is handed back says may be used. -/
theorem Fn.post {P : Program} {f : FuncId} {args : List Value} {h : Hp} {R : Rd} {Post Post' : Value → Hp → Prop} (c : Fn P f args h R Post) (hq : ∀ v h' w, Post v h' → Own h' w → Post' v h') : Fn P f args h R Post' :=
  ⟨c.1, fun w o r a => (c.2 w o r a).mono fun _ w' ⟨v, h', he, hp, t⟩ => ⟨v, h', he, hq v h' w' hp t.own, t⟩⟩
/-- Bytes of the call's own, in a new slice. -/
def OwnB0 (v : Value) (bs : List UInt8) (h : Hp) : Prop :=
  ∃ A k cap xs, v = .slice A k cap ∧ h = [.row A k cap 5 1 xs (0, 0)] ∧ k = bs.length ∧ xs = BV bs ∧ grow k A
def OwnBs (v : Value) (bs : List UInt8) (h : Hp) : Prop :=
  ∃ A k cap xs, v = .slice A k cap ∧ h = [.row A k cap 5 1 xs (0, 0)] ∧ k = bs.length ∧ xs = BV bs ∧ grow k A ∧ k ≤ cap
theorem OwnB0.caps {v : Value} {bs : List UInt8} {h : Hp} {w : World} (o : OwnB0 v bs h) (hw : Own h w) : OwnBs v bs h := by
  obtain ⟨A, k, cap, xs, rfl, rfl, hk, hxs, hg⟩ := o
  exact ⟨A, k, cap, xs, rfl, rfl, hk, hxs, hg, (row_cap hw 0 rfl).1⟩

theorem setRange_S8 (s t : S8) : setRange (WV s.list) 0 (WV t.list) = WV t.list := setRange_all rfl

theorem block_take {y : List UInt8} {s : S8} {n : Nat} (hn : 64 * (n + 1) ≤ y.length) : blocks (n + 1) s y = compress (blocks n s y) ((y.drop (64 * n)).take 64) := by
  have h1 : y = y.take (64 * n) ++ ((y.drop (64 * n)).take 64 ++ y.drop (64 * n + 64)) := by
    rw [← List.drop_drop, List.take_append_drop, List.take_append_drop]
  have hl : (y.take (64 * n)).length = 64 * n := by rw [List.length_take]; omega
  have hl2 : ((y.drop (64 * n)).take 64).length = 64 := by rw [List.length_take, List.length_drop]; omega
  have e1 : blocks (n + 1) s y = blocks 1 (blocks n s (y.take (64 * n))) ((y.drop (64 * n)).take 64 ++ y.drop (64 * n + 64)) := by
    conv => lhs; rw [h1]
    rw [blocks_append n 1 s _ _ (by omega)]
  have e2 : blocks n s y = blocks n s (y.take (64 * n)) := by
    conv => lhs; rw [h1]
    rw [blocks_take n s _ _ (by rw [hl]; exact Nat.le_refl _)]
  rw [e1, e2, blocks, blocks, List.take_append_of_le_length (by rw [hl2]; exact Nat.le_refl _), List.take_of_length_le (show ((y.drop (64 * n)).take 64).length ≤ 64 by rw [hl2]; exact Nat.le_refl _)]

theorem cat_take {l : List (List UInt8)} {i : Nat} (h : i < l.length) : cat (l.take (i + 1)) = cat (l.take i) ++ l.getD i [] := by
  rw [List.take_add_one, List.getD_eq_getElem?_getD, List.getElem?_eq_getElem h]
  show List.flatten (l.take i ++ [l[i]]) = List.flatten (l.take i) ++ l[i]
  rw [List.flatten_append]; simp
theorem cat_take_le {l : List (List UInt8)} {i : Nat} : (cat (l.take i)).length ≤ (cat l).length := by
  have : cat l = cat (l.take i) ++ cat (l.drop i) := by simp only [cat]; rw [← List.flatten_append, List.take_append_drop]
  rw [this, List.length_append]; omega

end Go.Proofs.YtgnmbgbiajgpeaaDoor
