/-
  The law's examples hold; the laws MerkleSums, MerkleRoot, MerklePath, MerkleVerify, MerkleConsistent.
-/
import Derived.Test.YtgbdfpfiolbhlaaDoorMkf
namespace Go.Proofs.YtgbdfpfiolbhlaaDoor
open Go Go.RowKit
set_option linter.unusedVariables false

theorem NewTree_ok (R : Rd) : Fn Tryd.prog 45 [] [] R (fun v h => ∃ g g1, v = .pointer (some ⟨g, 0, .none⟩) ∧ h = [.row (some ⟨g1, 0, .none⟩) 1 1 27 1 [.slice .none 0 0] (0, 0), .blk g 85 [.slice (some ⟨g1, 0, .none⟩) 1 1]]) := by
  refine fn_of_vc mixed tabOk Tryd.func45 rfl (by kernel_rfl) (Nat.le_of_ble_eq_true rfl) ?_
  refine ⟨rfl, fun g1 => ?_⟩
  intro g
  exact ⟨_, Ent.refl _, g, g1, rfl, rfl⟩

theorem splitN2 : splitN 2 = 1 := by decide +kernel
theorem splitN3 : splitN 3 = 2 := by decide +kernel
section
variable (a b c : Str)
theorem root1 : rootOf [a] = a := by rw [rootOf_one rfl]; rfl
theorem root2 : rootOf [a, b] = nodeOf a b := by
  rw [rootOf_two (show 2 ≤ [a, b].length from Nat.le_refl _)]
  show nodeOf (rootOf (List.take (splitN 2) [a, b])) (rootOf (List.drop (splitN 2) [a, b])) = _
  rw [splitN2]
  show nodeOf (rootOf [a]) (rootOf [b]) = _
  rw [root1, root1]
theorem root3 : rootOf [a, b, c] = nodeOf (nodeOf a b) c := by
  rw [rootOf_two (show 2 ≤ [a, b, c].length from Nat.le_succ _)]
  show nodeOf (rootOf (List.take (splitN 3) [a, b, c])) (rootOf (List.drop (splitN 3) [a, b, c])) = _
  rw [splitN3]
  show nodeOf (rootOf [a, b]) (rootOf [c]) = _
  rw [root1, root2]
theorem path3 : pathOf [a, b, c] 1 = [a, c] := by
  have e1 : pathR [a, b] 1 = [a] := by
    rw [pathR_hi (show 2 ≤ [a, b].length from Nat.le_refl _) (show ¬ 1 < splitN 2 by rw [splitN2]; decide)]
    show rootOf (List.take (splitN 2) [a, b]) :: pathR (List.drop (splitN 2) [a, b]) (1 - splitN 2) = _
    rw [splitN2]
    show rootOf [a] :: pathR [b] 0 = _
    rw [root1, pathR_one (show [b].length ≤ 1 from Nat.le_refl _)]
  have e2 : pathR [a, b, c] 1 = [c, a] := by
    rw [pathR_lo (show 2 ≤ [a, b, c].length from Nat.le_succ _) (show 1 < splitN 3 by rw [splitN3]; decide)]
    show rootOf (List.drop (splitN 3) [a, b, c]) :: pathR (List.take (splitN 3) [a, b, c]) 1 = _
    rw [splitN3]
    show rootOf [c] :: pathR [a, b] 1 = _
    rw [root1, e1]
  rw [pathOf, e2]; rfl
theorem up3 : upR b [c, a] 1 3 = (nodeOf (nodeOf a b) c, true) := by
  have e1 : upR b [a] 1 2 = (nodeOf a b, true) := by
    rw [upR_hi b a [] (by decide) (show ¬ 1 < splitN 2 by rw [splitN2]; decide), splitN2]
    show (nodeOf a (upR b [] 0 1).1, (upR b [] 0 1).2) = _
    rw [upR_nil1]
  rw [upR_lo b c [a] (by decide) (show 1 < splitN 3 by rw [splitN3]; decide), splitN3, e1]
theorem both3 (old : Str) : bothR old [c] 2 3 true = (old, nodeOf old c, true) := by
  simp only [bothR, splitN3]
  rfl
theorem sums_of (l : List Str) (h : ∀ s ∈ l, s.length = 32) : sumsB l = true := by
  rw [sumsB, List.all_eq_true]; intro s hs; rw [h s hs]; rfl
end

set_option maxRecDepth 100000 in
set_option maxHeartbeats 4000000 in
theorem awake_core (R : Rd) (hG : ShaG R) (a b c : Str) (ha : a.length = 32) (hb : b.length = 32) (hc : c.length = 32) (hab : a ≠ b)
    (fa : ∀ (R' : Rd) (A : Option Addr), ShaG R' → BsR R' (.slice A 1 1) [97] → Fn Tryd.prog 17 [.slice A 1 1] [] R' (fun v h => v = .string ⟨⟨a⟩⟩ ∧ h = []))
    (fb : ∀ (R' : Rd) (A : Option Addr), ShaG R' → BsR R' (.slice A 1 1) [98] → Fn Tryd.prog 17 [.slice A 1 1] [] R' (fun v h => v = .string ⟨⟨b⟩⟩ ∧ h = []))
    (fc : ∀ (R' : Rd) (A : Option Addr), ShaG R' → BsR R' (.slice A 1 1) [99] → Fn Tryd.prog 17 [.slice A 1 1] [] R' (fun v h => v = .string ⟨⟨c⟩⟩ ∧ h = [])) :
    Fn Tryd.prog 16 [] [] R (fun v h => v = .bool true ∧ h = []) := by
  have hab' : decide (a = b) = false := decide_eq_false hab
  have hla : (a.length : Int) = 32 := by omega
  have hn1 := nodeOf_length a b
  obtain ⟨ab, hab2⟩ : ∃ ab, ab = nodeOf a b := ⟨_, rfl⟩
  rw [← hab2] at hn1
  have hn2 := nodeOf_length ab c
  obtain ⟨rt, hrt⟩ : ∃ rt, rt = nodeOf ab c := ⟨_, rfl⟩
  rw [← hrt] at hn2
  have fab : ∀ R' : Rd, ShaG R' → Fn Tryd.prog 19 [.string ⟨⟨a⟩⟩, .string ⟨⟨b⟩⟩] [] R' (fun v h => v = .string ⟨⟨ab⟩⟩ ∧ h = []) := fun R' h => by rw [hab2]; exact Node_ok R' h a b (by omega) (by omega)
  have frt : ∀ R' : Rd, ShaG R' → Fn Tryd.prog 19 [.string ⟨⟨ab⟩⟩, .string ⟨⟨c⟩⟩] [] R' (fun v h => v = .string ⟨⟨rt⟩⟩ ∧ h = []) := fun R' h => by rw [hrt]; exact Node_ok R' h ab c (by omega) (by omega)
  have hsm : Small [a, b, c] := ⟨by show 3 ≤ _; omega, fun s hs => by
    simp only [List.mem_cons, List.not_mem_nil, or_false] at hs
    rcases hs with rfl | rfl | rfl <;> omega⟩
  have frr : ∀ (R' : Rd) (v0 : Value), ShaG R' → Ss R' v0 [a, b, c] → Fn Tryd.prog 22 [v0] [] R' (fun v h => v = .string ⟨⟨rt⟩⟩ ∧ h = []) := fun R' v0 h hs => by
    have := Root_ok R' h 3 [a, b, c] v0 rfl hsm hs
    rwa [root3, ← hab2, ← hrt] at this
  have fp : ∀ (R' : Rd) (v0 : Value), ShaG R' → Ss R' v0 [a, b, c] → Fn Tryd.prog 24 [v0, .int .i64 1] [] R' (fun v h => ∃ A k cap, v = .tuple ⟨[.slice A k cap, .int .i64 0]⟩ ∧ h = [.row A k cap 9 1 (SV [a, c]) (0, 0)] ∧ k = 2 ∧ grow k A ∧ k ≤ cap) := fun R' v0 h hs => by
    refine (Path_ok R' h [a, b, c] 1 v0 hsm hs).post ?_
    rintro v h' w ⟨A, k, cap, xs, rfl, hg, hcase⟩ o
    have hkc := (row_cap o 0 rfl).1
    rcases hcase with ⟨hn, _⟩ | ⟨_, _, rfl, hk, hx⟩
    · exact absurd ⟨by decide, show (1 : Int) < ((3 : Nat) : Int) by decide⟩ hn
    · have e : pathOf [a, b, c] (Int.toNat 1) = [a, c] := path3 a b c
      rw [e] at hk hx
      subst hx
      exact ⟨A, k, cap, rfl, rfl, hk, hg, hkc⟩
  have fv : ∀ (R' : Rd) (v3 : Value), ShaG R' → Ss R' v3 [a, c] → Fn Tryd.prog 27 [.string ⟨⟨b⟩⟩, .int .i64 1, .int .i64 3, v3, .string ⟨⟨rt⟩⟩] [] R' (fun v h => v = .bool true ∧ h = []) := fun R' v3 h hs => by
    have := Verify_ok R' h b rt 1 3 [a, c] v3 (by decide) (by decide) (by omega) ⟨by show 2 ≤ _; omega, fun s hs => by
      simp only [List.mem_cons, List.not_mem_nil, or_false] at hs
      rcases hs with rfl | rfl <;> omega⟩ hs
    have e : verifyB b 1 3 [a, c] rt = true := by
      have := verifyB_up (leaf := b) (root := rt) (i := 1) (n := 3) (path := [a, c]) (by decide) hb (by omega) (sums_of _ (by intro s hs; simp only [List.mem_cons, List.not_mem_nil, or_false] at hs; rcases hs with rfl | rfl <;> assumption))
      have e2 : upR b [a, c].reverse 1 3 = (rt, true) := by rw [hrt, hab2]; exact up3 a b c
      rw [e2, Bool.true_and, decide_eq_true rfl] at this
      exact this
    rwa [e] at this
  have fcs : ∀ (R' : Rd) (v3 : Value), ShaG R' → Ss R' v3 [c] → Fn Tryd.prog 31 [.int .i64 2, .int .i64 3, .string ⟨⟨ab⟩⟩, .string ⟨⟨rt⟩⟩, v3] [] R' (fun v h => v = .bool true ∧ h = []) := fun R' v3 h hs => by
    have := Consistent_ok R' h 2 3 ab rt [c] v3 (by decide) (by decide) (by omega) ⟨by show 1 ≤ _; omega, fun s hs => by
      simp only [List.mem_cons, List.not_mem_nil, or_false] at hs
      subst hs; omega⟩ hs
    have e : consistentB 2 3 ab rt [c] = true := by
      have := cB_up (old := ab) (new := rt) (m := 2) (n := 3) (proof := [c]) (by decide) (by decide) (by omega) (by omega) (sums_of _ (by intro s hs; simp only [List.mem_cons, List.not_mem_nil, or_false] at hs; subst hs; assumption))
      have e2 : bothR ab [c].reverse 2 3 true = (ab, rt, true) := by rw [hrt]; exact both3 c ab
      rw [e2, decide_eq_true rfl, decide_eq_true rfl] at this
      exact this
    rwa [e] at this
  refine fn_of_vc mixed tabOk Tryd.func16 rfl (by kernel_rfl) (Nat.le_of_ble_eq_true rfl) ?_
  refine ⟨rfl, fun g1 => ?_⟩
  refine ⟨0, rfl, ⟨g1, rfl⟩, rfl, rfl, ?_⟩
  refine ⟨[], _, fa _ _ (hG.rh _) (SlR.own 0 rfl rfl (.inr ⟨g1, rfl⟩)), ?_⟩
  rintro _ _ ⟨rfl, rfl⟩
  refine ⟨rfl, fun g2 => ?_⟩
  refine ⟨1, rfl, ⟨g2, rfl⟩, rfl, rfl, ?_⟩
  refine ⟨[], _, fb _ _ (hG.rh _) (SlR.own 1 rfl rfl (.inr ⟨g2, rfl⟩)), ?_⟩
  rintro _ _ ⟨rfl, rfl⟩
  refine ⟨rfl, fun g3 => ?_⟩
  refine ⟨2, rfl, ⟨g3, rfl⟩, rfl, rfl, ?_⟩
  refine ⟨[], _, fc _ _ (hG.rh _) (SlR.own 2 rfl rfl (.inr ⟨g3, rfl⟩)), ?_⟩
  rintro _ _ ⟨rfl, rfl⟩
  refine ⟨rfl, fun g4 => ?_⟩
  refine ⟨[], _, fp _ _ (hG.rh _) ⟨_, _, rfl, Nat.le_refl _, SlR.own 3 rfl rfl (.inr ⟨g4, rfl⟩)⟩, ?_⟩
  rintro _ _ ⟨A, k, cap, rfl, rfl, rfl, hg, hkc⟩
  refine ⟨[], _, fab _ (hG.rh _), ?_⟩
  rintro _ _ ⟨rfl, rfl⟩
  refine ⟨[], _, frt _ (hG.rh _), ?_⟩
  rintro _ _ ⟨rfl, rfl⟩
  refine ⟨[], _, NewTree_ok _, ?_⟩
  rintro _ _ ⟨g, g5, rfl, rfl⟩
  obtain ⟨g6, rfl⟩ := growA hg (by decide)
  repeat (first | (refine ⟨fun h => ?_, fun h => ?_⟩; rotate_left 1; (focus (exfalso; (first | (with_reducible (cases h; done)) | (revert h; simp; done) | (revert h; simp; omega) | (revert h; simp [*]; done)))); clear h) | (refine ⟨fun h => ?_, fun h => ?_⟩; (focus (exfalso; (first | (with_reducible (cases h; done)) | (revert h; simp; done) | (revert h; simp; omega) | (revert h; simp [*]; done)))); clear h))
  refine ⟨by decide, by decide, _, rfl, ?_⟩
  (first | (refine ⟨fun h => ?_, fun h => ?_⟩; rotate_left 1; (focus (exfalso; (first | (with_reducible (cases h; done)) | (revert h; simp; done) | (revert h; simp; omega) | (revert h; simp [*]; done)))); clear h) | (refine ⟨fun h => ?_, fun h => ?_⟩; (focus (exfalso; (first | (with_reducible (cases h; done)) | (revert h; simp; done) | (revert h; simp; omega) | (revert h; simp [*]; done)))); clear h))
  refine ⟨_, ldr1 (i := 0) 4 rfl rfl, ?_⟩
  repeat (first | (refine ⟨fun h => ?_, fun h => ?_⟩; rotate_left 1; (focus (exfalso; (first | (with_reducible (cases h; done)) | (revert h; simp; done) | (revert h; simp; omega) | (revert h; simp [*]; done)))); clear h) | (refine ⟨fun h => ?_, fun h => ?_⟩; (focus (exfalso; (first | (with_reducible (cases h; done)) | (revert h; simp; done) | (revert h; simp; omega) | (revert h; simp [*]; done)))); clear h))
  refine ⟨by decide, by decide, _, rfl, ?_⟩
  (first | (refine ⟨fun h => ?_, fun h => ?_⟩; rotate_left 1; (focus (exfalso; (first | (with_reducible (cases h; done)) | (revert h; simp; done) | (revert h; simp; omega) | (revert h; simp [*]; done)))); clear h) | (refine ⟨fun h => ?_, fun h => ?_⟩; (focus (exfalso; (first | (with_reducible (cases h; done)) | (revert h; simp; done) | (revert h; simp; omega) | (revert h; simp [*]; done)))); clear h))
  refine ⟨_, ldr1 (i := 1) 4 rfl rfl, ?_⟩
  repeat (first | (refine ⟨fun h => ?_, fun h => ?_⟩; rotate_left 1; (focus (exfalso; (first | (with_reducible (cases h; done)) | (revert h; simp; done) | (revert h; simp; omega) | (revert h; simp [*]; done)))); clear h) | (refine ⟨fun h => ?_, fun h => ?_⟩; (focus (exfalso; (first | (with_reducible (cases h; done)) | (revert h; simp; done) | (revert h; simp; omega) | (revert h; simp [*]; done)))); clear h))
  refine ⟨rfl, fun g8 => ?_⟩
  repeat (first | (refine ⟨fun h => ?_, fun h => ?_⟩; rotate_left 1; (focus (exfalso; (first | (with_reducible (cases h; done)) | (revert h; simp; done) | (revert h; simp; omega) | (revert h; simp [*]; done)))); clear h) | (refine ⟨fun h => ?_, fun h => ?_⟩; (focus (exfalso; (first | (with_reducible (cases h; done)) | (revert h; simp; done) | (revert h; simp; omega) | (revert h; simp [*]; done)))); clear h))
  refine ⟨[], _, frr _ _ (hG.rh _) ⟨_, _, rfl, Nat.le_refl _, SlR.own 7 rfl rfl (.inr ⟨g8, rfl⟩)⟩, ?_⟩
  rintro _ _ ⟨rfl, rfl⟩
  repeat (first | (refine ⟨fun h => ?_, fun h => ?_⟩; rotate_left 1; (focus (exfalso; (first | (with_reducible (cases h; done)) | (revert h; simp; done) | (revert h; simp; omega) | (revert h; simp [*]; done)))); clear h) | (refine ⟨fun h => ?_, fun h => ?_⟩; (focus (exfalso; (first | (with_reducible (cases h; done)) | (revert h; simp; done) | (revert h; simp; omega) | (revert h; simp [*]; done)))); clear h))
  refine ⟨[], _, fv _ _ (hG.rh _) ⟨_, _, rfl, hkc, SlR.own 4 rfl rfl hg⟩, ?_⟩
  rintro _ _ ⟨rfl, rfl⟩
  repeat (first | (refine ⟨fun h => ?_, fun h => ?_⟩; rotate_left 1; (focus (exfalso; (first | (with_reducible (cases h; done)) | (revert h; simp; done) | (revert h; simp; omega) | (revert h; simp [*]; done)))); clear h) | (refine ⟨fun h => ?_, fun h => ?_⟩; (focus (exfalso; (first | (with_reducible (cases h; done)) | (revert h; simp; done) | (revert h; simp; omega) | (revert h; simp [*]; done)))); clear h))
  refine ⟨[], _, fab _ (hG.rh _), ?_⟩
  rintro _ _ ⟨rfl, rfl⟩
  repeat (first | (refine ⟨fun h => ?_, fun h => ?_⟩; rotate_left 1; (focus (exfalso; (first | (with_reducible (cases h; done)) | (revert h; simp; done) | (revert h; simp; omega) | (revert h; simp [*]; done)))); clear h) | (refine ⟨fun h => ?_, fun h => ?_⟩; (focus (exfalso; (first | (with_reducible (cases h; done)) | (revert h; simp; done) | (revert h; simp; omega) | (revert h; simp [*]; done)))); clear h))
  refine ⟨rfl, fun g9 => ?_⟩
  repeat (first | (refine ⟨fun h => ?_, fun h => ?_⟩; rotate_left 1; (focus (exfalso; (first | (with_reducible (cases h; done)) | (revert h; simp; done) | (revert h; simp; omega) | (revert h; simp [*]; done)))); clear h) | (refine ⟨fun h => ?_, fun h => ?_⟩; (focus (exfalso; (first | (with_reducible (cases h; done)) | (revert h; simp; done) | (revert h; simp; omega) | (revert h; simp [*]; done)))); clear h))
  refine ⟨[], _, fcs _ _ (hG.rh _) ⟨_, _, rfl, Nat.le_refl _, SlR.own 8 rfl rfl (.inr ⟨g9, rfl⟩)⟩, ?_⟩
  rintro _ _ ⟨rfl, rfl⟩
  repeat (first | (refine ⟨fun h => ?_, fun h => ?_⟩; rotate_left 1; (focus (exfalso; (first | (with_reducible (cases h; done)) | (revert h; simp; done) | (revert h; simp; omega) | (revert h; simp [*]; done)))); clear h) | (refine ⟨fun h => ?_, fun h => ?_⟩; (focus (exfalso; (first | (with_reducible (cases h; done)) | (revert h; simp; done) | (revert h; simp; omega) | (revert h; simp [*]; done)))); clear h))
  exact ⟨_, Ent.drop [] [_, _, _, _, _, _, _, _, _], rfl, rfl⟩

theorem awake_ok (R : Rd) (hG : ShaG R) : Fn Tryd.prog 16 [] [] R (fun v h => v = .bool true ∧ h = []) :=
  awake_core R hG (leafOf [97]) (leafOf [98]) (leafOf [99]) (leafOf_length _) (leafOf_length _) (leafOf_length _) sha_ab
    (fun R' A h hs => Leaf_ok R' h [97] A 1 (by show 1 ≤ _; omega) (Nat.le_refl _) hs) (fun R' A h hs => Leaf_ok R' h [98] A 1 (by show 1 ≤ _; omega) (Nat.le_refl _) hs) (fun R' A h hs => Leaf_ok R' h [99] A 1 (by show 1 ≤ _; omega) (Nat.le_refl _) hs)

end Go.Proofs.YtgbdfpfiolbhlaaDoor
