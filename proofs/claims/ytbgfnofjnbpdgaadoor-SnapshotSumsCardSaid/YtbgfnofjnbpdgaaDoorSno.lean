/-
  Contract: Verify of a list of records.
-/
import Derived.Test.YtbgfnofjnbpdgaaDoorSnn
namespace Go.Proofs.YtbgfnofjnbpdgaaDoor
open Go Go.RowKit
set_option linter.unusedVariables false

set_option maxHeartbeats 1000000 in
theorem Verify_ok (R : Rd) (hG : ShaG R) {A : Option Addr} {cap : Nat} {l : List Snap} (hs : SlR R 10 (.slice A l.length cap) l.length (snaps l)) (hn : l.length ≤ 1000000) :
    Fn Tryd.prog 19 [.slice A l.length cap] [] R (fun v h => v = .int .i64 (verP l) ∧ h = []) := by
  have hML := maxLen_eq
  refine fn_of_vc mixed tabOk Tryd.func19 rfl (by kernel_rfl) (Nat.le_of_ble_eq_true rfl) ?_
  intro gm
  refine ⟨[none, none, some 2, none, some 4, some 5, some 6, some 7, none, none, none, some 11, some 12, some 13, some 14, some 15, some 16, some 17, some 18, some 19, some 20, some 21, some 22, some 23, some 24, some 25, some 26, some 27, some 28, some 29, some 30, some 31, some 32, some 33, some 34, some 35, some 36, some 37, some 38], [11], Nat × List VE × Nat, fun ⟨k, ve, _⟩ => k ≤ l.length ∧ (∀ i < k, verB l i = true) ∧ (∀ w, lookV ve w = lastW (l.take k) w) ∧ (∀ w s, lookV ve w = some s → Valid s), fun ⟨k, _, _⟩ => [.int .i64 k],
    fun ⟨_, ve, c⟩ => [.obj gm (.map ⟨entsV ve⟩ c)], fun ⟨k, _, _⟩ => l.length - k, (0, [], 0), ⟨Nat.zero_le _, fun i hi => by omega, fun w => rfl, fun w s h => by cases h⟩, ⟨rfl, trivial⟩, Ent.refl _, ?_⟩
  rintro ⟨k, ve, c⟩ ⟨hk, hv, hl, hva⟩ js
  refine ⟨fun hb => ?_, fun hb => ?_⟩
  · replace hb := of_decide_eq_true hb
    have hil : k < l.length := by omega
    clear hb
    have hget := List.getElem?_eq_getElem hil
    generalize l[k] = s at hget
    have hvb : verB l k = (validB s && contB s (lookV ve s.w)) := by
      unfold verB; rw [hget, hl]
    obtain ⟨a, rfl, hr⟩ := slr_at (c := Snap.cells) (fun _ => rfl) (by omega) hs hget
    refine ⟨by omega, by omega, a, rfl, ?_⟩
    refine ⟨s.cells, fun j u hu => .inl (rdnS (vs := s.cells) (fun j u hu => hr j u hu) j u hu), rfl, ?_⟩
    intro g5
    refine ⟨rfl, rfl, 1, rfl, rfl, Nat.le_of_ble_eq_true rfl, ?_⟩
    refine ⟨_, ld 1 rfl rfl, ?_⟩
    refine ⟨0, rfl, like_entsV _ _, ?_⟩
    rintro v f hf
    obtain ⟨rfl, rfl⟩ := foundV hf
    intro g6
    refine ⟨rfl, rfl, 2, rfl, rfl, Nat.le_of_ble_eq_true rfl, ?_⟩
    refine ⟨s.cells, rdBlk 1 rfl, rfl, ?_⟩
    refine ⟨[], _, valid_ok _ s, ?_⟩
    rintro _ _ ⟨rfl, rfl⟩
    have hpb : ((lookV ve s.w).getD Snap.zero).q ≤ 9223372036854775806 ∧ -9223372036854775808 ≤ ((lookV ve s.w).getD Snap.zero).q ∧ ((lookV ve s.w).isSome = true → Valid ((lookV ve s.w).getD Snap.zero)) := by
      cases hlk : lookV ve s.w with
      | none => exact ⟨by show (0 : Int) ≤ _; omega, by show _ ≤ (0 : Int); omega, fun h => by cases h⟩
      | some p => have := (hva _ _ hlk).q; exact ⟨by show p.q ≤ _; omega, by show _ ≤ p.q; omega, fun _ => hva _ _ hlk⟩
    have hpc : contB s (if (lookV ve s.w).isSome = true then some ((lookV ve s.w).getD Snap.zero) else .none) = contB s (lookV ve s.w) := by
      cases lookV ve s.w <;> rfl
    have hstop : verB l k = false → verP l = (k : Int) := fun h => verP_at hil hv h
    cases hvs : validB s
    · have hr : verP l = (k : Int) := hstop (by rw [hvb, hvs]; rfl)
      rw [hr]
      repeat (first | (refine ⟨fun h => ?_, fun h => ?_⟩; rotate_left 1; (focus (exfalso; (first | (with_reducible (cases h; done)) | (revert h; simp; done) | (revert h; simp; omega) | (revert h; simp [*]; done)))); clear h) | (refine ⟨fun h => ?_, fun h => ?_⟩; (focus (exfalso; (first | (with_reducible (cases h; done)) | (revert h; simp; done) | (revert h; simp; omega) | (revert h; simp [*]; done)))); clear h))
      exact ⟨_, Ent.nil _, rfl, rfl⟩
    · repeat (first | (refine ⟨fun h => ?_, fun h => ?_⟩; rotate_left 1; (focus (exfalso; (first | (with_reducible (cases h; done)) | (revert h; simp; done) | (revert h; simp; omega) | (revert h; simp [*]; done)))); clear h) | (refine ⟨fun h => ?_, fun h => ?_⟩; (focus (exfalso; (first | (with_reducible (cases h; done)) | (revert h; simp; done) | (revert h; simp; omega) | (revert h; simp [*]; done)))); clear h))
      refine ⟨s.cells, rdBlk 1 rfl, rfl, ?_⟩
      repeat (first | (refine ⟨fun h => ?_, fun h => ?_⟩; rotate_left 1; (focus (exfalso; (first | (with_reducible (cases h; done)) | (revert h; simp; done) | (revert h; simp; omega) | (revert h; simp [*]; done)))); clear h) | (refine ⟨fun h => ?_, fun h => ?_⟩; (focus (exfalso; (first | (with_reducible (cases h; done)) | (revert h; simp; done) | (revert h; simp; omega) | (revert h; simp [*]; done)))); clear h))
      refine ⟨((lookV ve s.w).getD Snap.zero).cells, rdBlk 2 rfl, rfl, ?_⟩
      repeat (first | (refine ⟨fun h => ?_, fun h => ?_⟩; rotate_left 1; (focus (exfalso; (first | (with_reducible (cases h; done)) | (revert h; simp; done) | (revert h; simp; omega) | (revert h; simp [*]; done)))); clear h) | (refine ⟨fun h => ?_, fun h => ?_⟩; (focus (exfalso; (first | (with_reducible (cases h; done)) | (revert h; simp; done) | (revert h; simp; omega) | (revert h; simp [*]; done)))); clear h))
      refine ⟨[], _, continues_ok _ (hG.rh _) s _ hpb.1 hpb.2.1 _ hpb.2.2, ?_⟩
      rintro _ _ ⟨rfl, rfl⟩
      rw [hpc]
      cases hc : contB s (lookV ve s.w)
      · have hr : verP l = (k : Int) := hstop (by rw [hvb, hvs, hc]; rfl)
        rw [hr]
        repeat (first | (refine ⟨fun h => ?_, fun h => ?_⟩; rotate_left 1; (focus (exfalso; (first | (with_reducible (cases h; done)) | (revert h; simp; done) | (revert h; simp; omega) | (revert h; simp [*]; done)))); clear h) | (refine ⟨fun h => ?_, fun h => ?_⟩; (focus (exfalso; (first | (with_reducible (cases h; done)) | (revert h; simp; done) | (revert h; simp; omega) | (revert h; simp [*]; done)))); clear h))
        exact ⟨_, Ent.nil _, rfl, rfl⟩
      · have hok : verB l k = true := by rw [hvb, hvs, hc]; rfl
        have hV : Valid s := validB_iff.1 hvs
        repeat (first | (refine ⟨fun h => ?_, fun h => ?_⟩; rotate_left 1; (focus (exfalso; (first | (with_reducible (cases h; done)) | (revert h; simp; done) | (revert h; simp; omega) | (revert h; simp [*]; done)))); clear h) | (refine ⟨fun h => ?_, fun h => ?_⟩; (focus (exfalso; (first | (with_reducible (cases h; done)) | (revert h; simp; done) | (revert h; simp; omega) | (revert h; simp [*]; done)))); clear h))
        refine ⟨_, ld 1 rfl rfl, ?_⟩
        refine ⟨s.cells, rdBlk 1 rfl, rfl, ?_⟩
        refine ⟨0, rfl, like_entsV _ _, ?_⟩
        rintro es' c' hu
        obtain ⟨ve', rfl, hl'⟩ := updV hu
        (intro z hz; obtain rfl : z = ((k + 1 : Nat) : Int) := (by first | (rw [IntKind.wrap_i64] at hz; omega) | (rw [IntKind.wrap_u64] at hz; omega) | omega); clear hz)
        refine ⟨rfl, (k + 1, ve', c'), ⟨hil, fun i hi => ?_, fun w => ?_, fun w p hp => ?_⟩, by show l.length - (k + 1) < l.length - k; omega, ⟨rfl, trivial⟩, Ent.drop [_] [_, _], rfl⟩
        · by_cases hik : i = k
          · rw [hik]; exact hok
          · exact hv i (by omega)
        · rw [lastW_step hget, hl', hl]
        · rw [hl'] at hp
          by_cases hw : w = s.w
          · rw [if_pos hw] at hp; cases hp; exact hV
          · rw [if_neg hw] at hp; exact hva _ _ hp
  · replace hb := of_decide_eq_false hb
    obtain rfl : k = l.length := by omega
    refine ⟨_, Ent.nil _, ?_, rfl⟩
    rw [verP_all hv]; rfl

end Go.Proofs.YtbgfnofjnbpdgaaDoor
