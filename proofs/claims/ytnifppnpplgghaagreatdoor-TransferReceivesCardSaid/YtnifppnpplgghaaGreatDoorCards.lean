/-
  DERIVED. GIVEN WITH THE SEED: THE CARDS: each row of YtnifppnpplgghaaGreatDoorRows.lean that lists a variable, with what it lists TIED to the program's text (the seventh form; the later family's looks); each row that meets fmt, with fmt's text TOLD by the authors' own Lean function (tested against real Go, not proved from fmt's source: count such statements apart). THE CARD IS WHAT COUNTS. Prove the row's statement (the work); the ties are given (YtnifppnpplgghaaGreatDoorTie.lean); close each card by the builder's one call (the guide's Derived/Test/ToyasCard.lean, 'card_holds'). Laid BY PROGRAM, IN A SANDBOX (cutbox-door.mjs). By AI agents, Wed Nov 11 2026. No macro, syntax, notation, axiom, sorry.
-/
import Derived.Test.YtnifppnpplgghaaGreatDoorRows
import GoSem.ClaimSeven
namespace Go.Proofs.YtnifppnpplgghaaGreatDoor
namespace Rows

/-- THE TIED CARD OF 'kinkeeplaw42.TransferReceives'. -/
def transferReceivesCard : Claim7 := { stood := { row := transferReceivesRow, standIns := [], harness := (true, "6ad3f3d333eb1d8656288ed0f5826bf6da1b4d4a1a1f664f847f2ef6a92392a4"), looks := false }, kinds := [], alts := [], laidByText := true, laidKinds := [.data, .data], laidTests := true, laidLooks := .later }
def TransferReceivesCardSaid : Prop := Claim7.holds Tryz.pinned (.plain (OpenSpec.ofChange transferReceivesSpec)) transferReceivesCard

/-- THE TIED CARD OF 'kinkeeplaw42.TransferDecodes'. -/
def transferDecodesCard : Claim7 := { stood := { row := transferDecodesRow, standIns := [], harness := (true, "6ad3f3d333eb1d8656288ed0f5826bf6da1b4d4a1a1f664f847f2ef6a92392a4"), looks := false }, kinds := [], alts := [], laidByText := true, laidKinds := [.data, .data], laidTests := true, laidLooks := .later }
def TransferDecodesCardSaid : Prop := Claim7.holds Tryz.pinned (.plain (OpenSpec.ofChange transferDecodesSpec)) transferDecodesCard

/-- THE TIED CARD OF 'kinkeeplaw42.TransferHeads'. -/
def transferHeadsCard : Claim7 := { stood := { row := transferHeadsRow, standIns := [], harness := (true, "6ad3f3d333eb1d8656288ed0f5826bf6da1b4d4a1a1f664f847f2ef6a92392a4"), looks := false }, kinds := [], alts := [], laidByText := true, laidKinds := [.data, .data], laidTests := true, laidLooks := .later }
def TransferHeadsCardSaid : Prop := Claim7.holds Tryz.pinned (.plain (OpenSpec.ofChange transferHeadsSpec)) transferHeadsCard

/-- THE TIED CARD OF 'kinkeeplaw42.TransferParts'. -/
def transferPartsCard : Claim7 := { stood := { row := transferPartsRow, standIns := [], harness := (true, "6ad3f3d333eb1d8656288ed0f5826bf6da1b4d4a1a1f664f847f2ef6a92392a4"), looks := false }, kinds := [], alts := [], laidByText := true, laidKinds := [.data, .data], laidTests := true, laidLooks := .later }
def TransferPartsCardSaid : Prop := Claim7.holds Tryz.pinned (.plain (OpenSpec.ofChange transferPartsSpec)) transferPartsCard

/-- THE TIED CARD OF 'kinkeeplaw42.TransferWhole'. -/
def transferWholeCard : Claim7 := { stood := { row := transferWholeRow, standIns := [], harness := (true, "6ad3f3d333eb1d8656288ed0f5826bf6da1b4d4a1a1f664f847f2ef6a92392a4"), looks := false }, kinds := [], alts := [], laidByText := true, laidKinds := [.data, .data], laidTests := true, laidLooks := .later }
def TransferWholeCardSaid : Prop := Claim7.holds Tryz.pinned (.plain (OpenSpec.ofChange transferWholeSpec)) transferWholeCard

/-- THE TIED CARD OF 'kinkeeplaw42.TransferResumes'. -/
def transferResumesCard : Claim7 := { stood := { row := transferResumesRow, standIns := [], harness := (true, "6ad3f3d333eb1d8656288ed0f5826bf6da1b4d4a1a1f664f847f2ef6a92392a4"), looks := false }, kinds := [], alts := [], laidByText := true, laidKinds := [.data, .data], laidTests := true, laidLooks := .later }
def TransferResumesCardSaid : Prop := Claim7.holds Tryz.pinned (.plain (OpenSpec.ofChange transferResumesSpec)) transferResumesCard

/-- THE TIED CARD OF 'kinkeeplaw42.TransferOrder'. -/
def transferOrderCard : Claim7 := { stood := { row := transferOrderRow, standIns := [], harness := (true, "6ad3f3d333eb1d8656288ed0f5826bf6da1b4d4a1a1f664f847f2ef6a92392a4"), looks := false }, kinds := [], alts := [], laidByText := true, laidKinds := [.data, .data], laidTests := true, laidLooks := .later }
def TransferOrderCardSaid : Prop := Claim7.holds Tryz.pinned (.plain (OpenSpec.ofChange transferOrderSpec)) transferOrderCard

/-- THE SECOND FORM's CARD OF 'kinkeeplaw42.TransferReceives'. -/
def transferReceivesUptoCard : Claim7 := { stood := { row := transferReceivesUptoRow, standIns := [], harness := (true, "6ad3f3d333eb1d8656288ed0f5826bf6da1b4d4a1a1f664f847f2ef6a92392a4"), looks := false }, kinds := [], alts := [], laidByText := true, laidKinds := [.data, .data], laidTests := true, laidLooks := .later }
def TransferReceivesUptoCardSaid : Prop := Claim7.holds Tryz.pinned (.plain (OpenSpec.upto transferReceivesSpec)) transferReceivesUptoCard

/-- THE SECOND FORM's CARD OF 'kinkeeplaw42.TransferDecodes'. -/
def transferDecodesUptoCard : Claim7 := { stood := { row := transferDecodesUptoRow, standIns := [], harness := (true, "6ad3f3d333eb1d8656288ed0f5826bf6da1b4d4a1a1f664f847f2ef6a92392a4"), looks := false }, kinds := [], alts := [], laidByText := true, laidKinds := [.data, .data], laidTests := true, laidLooks := .later }
def TransferDecodesUptoCardSaid : Prop := Claim7.holds Tryz.pinned (.plain (OpenSpec.upto transferDecodesSpec)) transferDecodesUptoCard

/-- THE SECOND FORM's CARD OF 'kinkeeplaw42.TransferHeads'. -/
def transferHeadsUptoCard : Claim7 := { stood := { row := transferHeadsUptoRow, standIns := [], harness := (true, "6ad3f3d333eb1d8656288ed0f5826bf6da1b4d4a1a1f664f847f2ef6a92392a4"), looks := false }, kinds := [], alts := [], laidByText := true, laidKinds := [.data, .data], laidTests := true, laidLooks := .later }
def TransferHeadsUptoCardSaid : Prop := Claim7.holds Tryz.pinned (.plain (OpenSpec.upto transferHeadsSpec)) transferHeadsUptoCard

/-- THE SECOND FORM's CARD OF 'kinkeeplaw42.TransferParts'. -/
def transferPartsUptoCard : Claim7 := { stood := { row := transferPartsUptoRow, standIns := [], harness := (true, "6ad3f3d333eb1d8656288ed0f5826bf6da1b4d4a1a1f664f847f2ef6a92392a4"), looks := false }, kinds := [], alts := [], laidByText := true, laidKinds := [.data, .data], laidTests := true, laidLooks := .later }
def TransferPartsUptoCardSaid : Prop := Claim7.holds Tryz.pinned (.plain (OpenSpec.upto transferPartsSpec)) transferPartsUptoCard

/-- THE SECOND FORM's CARD OF 'kinkeeplaw42.TransferWhole'. -/
def transferWholeUptoCard : Claim7 := { stood := { row := transferWholeUptoRow, standIns := [], harness := (true, "6ad3f3d333eb1d8656288ed0f5826bf6da1b4d4a1a1f664f847f2ef6a92392a4"), looks := false }, kinds := [], alts := [], laidByText := true, laidKinds := [.data, .data], laidTests := true, laidLooks := .later }
def TransferWholeUptoCardSaid : Prop := Claim7.holds Tryz.pinned (.plain (OpenSpec.upto transferWholeSpec)) transferWholeUptoCard

/-- THE SECOND FORM's CARD OF 'kinkeeplaw42.TransferResumes'. -/
def transferResumesUptoCard : Claim7 := { stood := { row := transferResumesUptoRow, standIns := [], harness := (true, "6ad3f3d333eb1d8656288ed0f5826bf6da1b4d4a1a1f664f847f2ef6a92392a4"), looks := false }, kinds := [], alts := [], laidByText := true, laidKinds := [.data, .data], laidTests := true, laidLooks := .later }
def TransferResumesUptoCardSaid : Prop := Claim7.holds Tryz.pinned (.plain (OpenSpec.upto transferResumesSpec)) transferResumesUptoCard

/-- THE SECOND FORM's CARD OF 'kinkeeplaw42.TransferOrder'. -/
def transferOrderUptoCard : Claim7 := { stood := { row := transferOrderUptoRow, standIns := [], harness := (true, "6ad3f3d333eb1d8656288ed0f5826bf6da1b4d4a1a1f664f847f2ef6a92392a4"), looks := false }, kinds := [], alts := [], laidByText := true, laidKinds := [.data, .data], laidTests := true, laidLooks := .later }
def TransferOrderUptoCardSaid : Prop := Claim7.holds Tryz.pinned (.plain (OpenSpec.upto transferOrderSpec)) transferOrderUptoCard
end Rows
end Go.Proofs.YtnifppnpplgghaaGreatDoor
