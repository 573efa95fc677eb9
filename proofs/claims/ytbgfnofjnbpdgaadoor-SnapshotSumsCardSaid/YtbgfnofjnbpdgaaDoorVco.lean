/-
  A range over a function, with what follows it.
-/
import Derived.Test.YtbgfnofjnbpdgaaDoorVcn
namespace Go.Proofs.YtbgfnofjnbpdgaaDoor
open Go Go.RowKit
set_option linter.unusedVariables false

theorem vc_rangeK {P : Program} {tab : Tab} (htab : TabOk P tab) {α : Type} {enc : α → List Value} {xs : List α} {R : Rd} {f : Operand} {ps : Array Tmp} {assign body : Code} {ρ : List Value} {ds : List Deferred} {h : Hp} {gf : FuncId} {lb : List Value} {N : Kont} {X : Nat → Kont} {Rt : Kont}
    (hf : ev ρ f = .func (.func gf) #[] lb.toArray) (hcall : Callable P gf) (hps : ∀ x, (enc x).length = ps.size)
    (hseq : ∀ w, RSat (RH R h) w → SeqStopsK Fence.wide 3 P gf lb.toArray (fun x => (enc x).toArray) (fun A B => RSat (RH R h) A → RSat (RH R h) B) (fun ys => ys = xs) (fun pre => pre <+: xs) xs.length w)
    (hra : roundOk assign = true) (hrb : roundOk body = true) (inv : List α → Prop) (stop : List α → Hp → Prop) (h0 : inv [])
    (hround : ∀ x, setsK ps.toList (enc x) ρ fun ρ1 => vcC P tab R assign (fun ρ' ds' h' => ds' = [] ∧ Near h h' ∧ Ent h' h ∧
      ∀ pre, inv pre → vcC P tab R body (fun _ _ h2 => Ent h2 h ∧ inv (pre ++ [x])) (fun _ _ _ _ => False) (fun _ _ h2 => ∃ hS, Ent h2 hS ∧ Near h hS ∧ stop (pre ++ [x]) hS) ρ' [] h') (fun _ _ _ _ => False) (fun _ _ _ => False) ρ1 [] h)
    (hN : inv xs → ∀ D, N ρ (collD D :: ds) (h ++ [.obj D (.deferred (some []))]))
    (hRt : ∀ pre hS, pre <+: xs → stop pre hS → ∀ D, Rt ρ (collD D :: ds) (hS ++ [.obj D (.deferred (some []))])) :
    ∀ w, Own h w → RSat R w → Apart R h → (Code.rangeFunc f ps assign body).wp P (fun e a' w' => ∃ ρ' ds' h', a' = act ρ' ds' ∧ Tr w h w' h' ∧ (match e with
      | .normal => N ρ' ds' h'
      | .exit i => X i ρ' ds' h'
      | .ret => Rt ρ' ds' h'
      | _ => False)) (act ρ ds) w := by
  intro w own hr ap
  refine Code.wp_mono (fun e a' w' hq => ?_) (vc_range htab hf hcall hps (fun w own hr => hseq w (hr.rh own)) hra hrb
    (fun x ρ' h' => ∀ pre, inv pre → vcC P tab R body (fun _ _ h2 => Ent h2 h ∧ inv (pre ++ [x])) (fun _ _ _ _ => False) (fun _ _ h2 => ∃ hS, Ent h2 hS ∧ Near h hS ∧ stop (pre ++ [x]) hS) ρ' [] h')
    inv stop h0 (fun x => by have hx := hround x; rw [setsK_eq] at hx; exact hx) (fun pre x ρ' h' hi hna => hna pre hi) w own hr ap)
  obtain ⟨ρ', ds', h', rfl, ht, hq⟩ := hq
  refine ⟨ρ', ds', h', rfl, ht, ?_⟩
  cases e <;> first | exact False.elim hq | skip
  · obtain ⟨rfl, hi, D, rfl, rfl⟩ := hq
    exact hN hi D
  · obtain ⟨rfl, pre, hS, D, hp, hs, rfl, rfl⟩ := hq
    exact hRt pre hS hp hs D

end Go.Proofs.YtbgfnofjnbpdgaaDoor
