/-
  The tables of SHA-256 out of the row's list; and a world that has them.
-/
import Derived.Test.YtgnmbgbiajgpeaaDoorH1
import Derived.Test.YtgnmbgbiajgpeaaDoorRows
import Derived.ProofKit
import Derived.LaidMore
import Derived.OpenShut
import Derived.Lib.LaidTab
import Derived.Stop.LaidErr
namespace Go.Proofs.YtgnmbgbiajgpeaaDoor
open Go Go.RowKit

def laidL : List (String × DataW Unit) := [("kinkeep/sha256.initial", Rows.laid_kinkeep_sha256_initial), ("kinkeep/sha256.constants", Rows.laid_kinkeep_sha256_constants)]
def zsI : List Int := [1779033703, 3144134277, 1013904242, 2773480762, 1359893119, 2600822924, 528734635, 1541459225]
def zsC : List Int := shaK.map Int.ofNat

theorem gI : Tryd.prog.globalNamed "kinkeep/sha256.initial" = some 0 := by kernel_rfl
theorem gC : Tryd.prog.globalNamed "kinkeep/sha256.constants" = some 1 := by kernel_rfl
theorem gIt : (Tryd.prog.globals[0]?).map (·.type) = some 135 := by kernel_rfl
theorem gCt : (Tryd.prog.globals[1]?).map (·.type) = some 151 := by kernel_rfl
theorem cells8 : Tryd.prog.cellsOf 135 = 8 := by kernel_rfl
theorem cells64 : Tryd.prog.cellsOf 151 = 64 := by kernel_rfl
theorem cells1 : Tryd.prog.cellsOf 134 = 1 := by kernel_rfl
theorem u8t : Tryd.prog.underlying 135 = some (.array 8 134) := by kernel_rfl
theorem u64t : Tryd.prog.underlying 151 = some (.array 64 134) := by kernel_rfl
theorem u32t : Tryd.prog.underlying 134 = some (.int .u32) := by kernel_rfl

theorem zsC_get : ∀ i, i < 64 → zsC.getD i 0 = ((shaK_at i).toNat : Int) := by
  have h : ∀ i : Fin 64, zsC.getD i.val 0 = ((shaK_at i.val).toNat : Int) := by decide +kernel
  exact fun i hi => h ⟨i, hi⟩
theorem eqI : (Rows.laid_kinkeep_sha256_initial : DataW Unit) = Lib.tabData .u32 zsI := by kernel_rfl
theorem eqC : (Rows.laid_kinkeep_sha256_constants : DataW Unit) = Lib.tabData .u32 zsC := by kernel_rfl

theorem shaG_of_laid {W : World} (h : laidMetH Tryd.prog laidL W) : ShaG (fun a v => W.cell? a = some v) := by
  rw [MakeChecks.laidMetH_plain _ _ _ (by kernel_rfl)] at h
  rw [laidL, eqI, eqC] at h
  have hI := Lib.tabIs_of_head gI gIt u8t u32t cells1 cells8 h
  have hC := Lib.tabIs_of_head gC gCt u64t u32t cells1 cells64 (laidMet.tail h)
  refine ⟨fun i hi => ?_, fun j v hv => ?_⟩
  · have := hC.cell gC i (by rw [zsC, List.length_map]; exact hi)
    rw [zsC_get i hi] at this
    exact this
  · rw [add_zero_addr]
    have hj : j < 8 := by have := (List.getElem?_eq_some_iff.1 hv).1; rw [WV_length] at this; exact this
    have := hI.cell gI j (by show j < 8; exact hj)
    show W.cell? _ = some v
    rw [this, ← hv]
    have hw : ∀ j, j < 8 → some (Value.int .u32 (zsI.getD j 0)) = (WV shaH0.list)[j]? := by
      intro j hj
      have : j = 0 ∨ j = 1 ∨ j = 2 ∨ j = 3 ∨ j = 4 ∨ j = 5 ∨ j = 6 ∨ j = 7 := by omega
      rcases this with rfl | rfl | rfl | rfl | rfl | rfl | rfl | rfl <;> rfl
    exact hw j hj

/-- The door's own heap meets the condition. -/
theorem laid_met (os : Os) (args : Array Value) : laidMetH Tryd.prog laidL ((World.doorLaid Tryd.prog 19 os).forCall (fun _ _ => 0) ⟨#[], args, []⟩).memory :=
  laidMetH_of_parts3 (fuel := 8) (laidMet_of_run' 8 (by kernel_rfl) (by kernel_rfl)) (by kernel_rfl) (by kernel_rfl)

end Go.Proofs.YtgnmbgbiajgpeaaDoor
