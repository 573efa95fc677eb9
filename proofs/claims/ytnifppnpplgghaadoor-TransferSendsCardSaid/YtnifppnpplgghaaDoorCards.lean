/-
  DERIVED. GIVEN WITH THE SEED: THE CARDS: each row of YtnifppnpplgghaaDoorRows.lean that lists a variable, with what it lists TIED to the program's text (the seventh form; the later family's looks); each row that meets fmt, with fmt's text TOLD by the authors' own Lean function (tested against real Go, not proved from fmt's source: count such statements apart). THE CARD IS WHAT COUNTS. Prove the row's statement (the work); the ties are given (YtnifppnpplgghaaDoorTie.lean); close each card by the builder's one call (the guide's Derived/Test/ToyasCard.lean, 'card_holds'). Laid BY PROGRAM, IN A SANDBOX (cutbox-door.mjs). By AI agents, Wed Nov 11 2026. No macro, syntax, notation, axiom, sorry.
-/
import Derived.Test.YtnifppnpplgghaaDoorRows
import GoSem.ClaimSeven
namespace Go.Proofs.YtnifppnpplgghaaDoor
namespace Rows

/-- THE TIED CARD OF 'kinkeeplaw26.SnapshotJoin'. -/
def snapshotJoinCard : Claim7 := { stood := { row := snapshotJoinRow, standIns := [], harness := (true, "8325062e81e08cdf6bd46591265a8d3aaa82c95af59089ef2a81491b39b48edc"), looks := false }, kinds := [], alts := [], laidByText := true, laidKinds := [.data, .data], laidTests := true, laidLooks := .later }
def SnapshotJoinCardSaid : Prop := Claim7.holds Tryd.pinned (.plain (OpenSpec.ofChange snapshotJoinSpec)) snapshotJoinCard

/-- THE TIED CARD OF 'kinkeeplaw42.TransferSends'. -/
def transferSendsCard : Claim7 := { stood := { row := transferSendsRow, standIns := [], harness := (true, "8325062e81e08cdf6bd46591265a8d3aaa82c95af59089ef2a81491b39b48edc"), looks := false }, kinds := [], alts := [], laidByText := true, laidKinds := [.data, .data], laidTests := true, laidLooks := .later }
def TransferSendsCardSaid : Prop := Claim7.holds Tryd.pinned (.plain (OpenSpec.ofChange transferSendsSpec)) transferSendsCard

/-- THE TIED CARD OF 'kinkeeplaw42.TransferGuards'. -/
def transferGuardsCard : Claim7 := { stood := { row := transferGuardsRow, standIns := [], harness := (true, "8325062e81e08cdf6bd46591265a8d3aaa82c95af59089ef2a81491b39b48edc"), looks := false }, kinds := [], alts := [], laidByText := true, laidKinds := [.data, .data], laidTests := true, laidLooks := .later }
def TransferGuardsCardSaid : Prop := Claim7.holds Tryd.pinned (.plain (OpenSpec.ofChange transferGuardsSpec)) transferGuardsCard

/-- THE SECOND FORM's CARD OF 'kinkeeplaw26.SnapshotJoin'. -/
def snapshotJoinUptoCard : Claim7 := { stood := { row := snapshotJoinUptoRow, standIns := [], harness := (true, "8325062e81e08cdf6bd46591265a8d3aaa82c95af59089ef2a81491b39b48edc"), looks := false }, kinds := [], alts := [], laidByText := true, laidKinds := [.data, .data], laidTests := true, laidLooks := .later }
def SnapshotJoinUptoCardSaid : Prop := Claim7.holds Tryd.pinned (.plain (OpenSpec.upto snapshotJoinSpec)) snapshotJoinUptoCard

/-- THE SECOND FORM's CARD OF 'kinkeeplaw42.TransferSends'. -/
def transferSendsUptoCard : Claim7 := { stood := { row := transferSendsUptoRow, standIns := [], harness := (true, "8325062e81e08cdf6bd46591265a8d3aaa82c95af59089ef2a81491b39b48edc"), looks := false }, kinds := [], alts := [], laidByText := true, laidKinds := [.data, .data], laidTests := true, laidLooks := .later }
def TransferSendsUptoCardSaid : Prop := Claim7.holds Tryd.pinned (.plain (OpenSpec.upto transferSendsSpec)) transferSendsUptoCard

/-- THE SECOND FORM's CARD OF 'kinkeeplaw42.TransferGuards'. -/
def transferGuardsUptoCard : Claim7 := { stood := { row := transferGuardsUptoRow, standIns := [], harness := (true, "8325062e81e08cdf6bd46591265a8d3aaa82c95af59089ef2a81491b39b48edc"), looks := false }, kinds := [], alts := [], laidByText := true, laidKinds := [.data, .data], laidTests := true, laidLooks := .later }
def TransferGuardsUptoCardSaid : Prop := Claim7.holds Tryd.pinned (.plain (OpenSpec.upto transferGuardsSpec)) transferGuardsUptoCard
end Rows
end Go.Proofs.YtnifppnpplgghaaDoor
