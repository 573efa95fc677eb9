/-
  DERIVED. GIVEN WITH THE SEED: THE CARDS: each row of YtoddabjacjkjbaaDoorRows.lean that lists a variable, with what it lists TIED to the program's text (the seventh form; the later family's looks); each row that meets fmt, with fmt's text TOLD by the authors' own Lean function (tested against real Go, not proved from fmt's source: count such statements apart). THE CARD IS WHAT COUNTS. Prove the row's statement (the work); the ties are given (YtoddabjacjkjbaaDoorTie.lean); close each card by the builder's one call (the guide's Derived/Test/ToyasCard.lean, 'card_holds'). Laid BY PROGRAM, IN A SANDBOX (cutbox-door.mjs). By AI agents, Wed Nov 11 2026. No macro, syntax, notation, axiom, sorry.
-/
import Derived.Test.YtoddabjacjkjbaaDoorRows
import GoSem.ClaimSeven
namespace Go.Proofs.YtoddabjacjkjbaaDoor
namespace Rows

/-- THE TIED CARD OF 'kinkeeptop.TopAltered'. -/
def topAlteredCard : Claim7 := { stood := { row := topAlteredRow, standIns := [], harness := (true, "47e2032837afd0e53efac8a87e41fee877345a21867a3296d739e0d908811012"), looks := false }, kinds := [], alts := [], laidByText := true, laidKinds := [.data, .data], laidTests := true, laidLooks := .later }
def TopAlteredCardSaid : Prop := Claim7.holds Tryd.pinned (.plain (OpenSpec.ofChange topAlteredSpec)) topAlteredCard

/-- THE TIED CARD OF 'kinkeeptop.TopSecretPieces'. -/
def topSecretPiecesCard : Claim7 := { stood := { row := topSecretPiecesRow, standIns := [], harness := (true, "47e2032837afd0e53efac8a87e41fee877345a21867a3296d739e0d908811012"), looks := false }, kinds := [], alts := [], laidByText := true, laidKinds := [.data, .data], laidTests := true, laidLooks := .later }
def TopSecretPiecesCardSaid : Prop := Claim7.holds Tryd.pinned (.plain (OpenSpec.ofChange topSecretPiecesSpec)) topSecretPiecesCard

/-- THE TIED CARD OF 'kinkeeptop.TopAlteredPart'. -/
def topAlteredPartCard : Claim7 := { stood := { row := topAlteredPartRow, standIns := [], harness := (true, "47e2032837afd0e53efac8a87e41fee877345a21867a3296d739e0d908811012"), looks := false }, kinds := [], alts := [], laidByText := true, laidKinds := [.data, .data], laidTests := true, laidLooks := .later }
def TopAlteredPartCardSaid : Prop := Claim7.holds Tryd.pinned (.plain (OpenSpec.ofChange topAlteredPartSpec)) topAlteredPartCard

/-- THE TIED CARD OF 'kinkeeplaw26.SnapshotJoin'. -/
def snapshotJoinCard : Claim7 := { stood := { row := snapshotJoinRow, standIns := [], harness := (true, "47e2032837afd0e53efac8a87e41fee877345a21867a3296d739e0d908811012"), looks := false }, kinds := [], alts := [], laidByText := true, laidKinds := [.data, .data], laidTests := true, laidLooks := .later }
def SnapshotJoinCardSaid : Prop := Claim7.holds Tryd.pinned (.plain (OpenSpec.ofChange snapshotJoinSpec)) snapshotJoinCard

/-- THE TIED CARD OF 'kinkeeplaw42.TransferGuards'. -/
def transferGuardsCard : Claim7 := { stood := { row := transferGuardsRow, standIns := [], harness := (true, "47e2032837afd0e53efac8a87e41fee877345a21867a3296d739e0d908811012"), looks := false }, kinds := [], alts := [], laidByText := true, laidKinds := [.data, .data], laidTests := true, laidLooks := .later }
def TransferGuardsCardSaid : Prop := Claim7.holds Tryd.pinned (.plain (OpenSpec.ofChange transferGuardsSpec)) transferGuardsCard

/-- THE SECOND FORM's CARD OF 'kinkeeptop.TopAltered'. -/
def topAlteredUptoCard : Claim7 := { stood := { row := topAlteredUptoRow, standIns := [], harness := (true, "47e2032837afd0e53efac8a87e41fee877345a21867a3296d739e0d908811012"), looks := false }, kinds := [], alts := [], laidByText := true, laidKinds := [.data, .data], laidTests := true, laidLooks := .later }
def TopAlteredUptoCardSaid : Prop := Claim7.holds Tryd.pinned (.plain (OpenSpec.upto topAlteredSpec)) topAlteredUptoCard

/-- THE SECOND FORM's CARD OF 'kinkeeptop.TopSecretPieces'. -/
def topSecretPiecesUptoCard : Claim7 := { stood := { row := topSecretPiecesUptoRow, standIns := [], harness := (true, "47e2032837afd0e53efac8a87e41fee877345a21867a3296d739e0d908811012"), looks := false }, kinds := [], alts := [], laidByText := true, laidKinds := [.data, .data], laidTests := true, laidLooks := .later }
def TopSecretPiecesUptoCardSaid : Prop := Claim7.holds Tryd.pinned (.plain (OpenSpec.upto topSecretPiecesSpec)) topSecretPiecesUptoCard

/-- THE SECOND FORM's CARD OF 'kinkeeptop.TopAlteredPart'. -/
def topAlteredPartUptoCard : Claim7 := { stood := { row := topAlteredPartUptoRow, standIns := [], harness := (true, "47e2032837afd0e53efac8a87e41fee877345a21867a3296d739e0d908811012"), looks := false }, kinds := [], alts := [], laidByText := true, laidKinds := [.data, .data], laidTests := true, laidLooks := .later }
def TopAlteredPartUptoCardSaid : Prop := Claim7.holds Tryd.pinned (.plain (OpenSpec.upto topAlteredPartSpec)) topAlteredPartUptoCard

/-- THE SECOND FORM's CARD OF 'kinkeeplaw26.SnapshotJoin'. -/
def snapshotJoinUptoCard : Claim7 := { stood := { row := snapshotJoinUptoRow, standIns := [], harness := (true, "47e2032837afd0e53efac8a87e41fee877345a21867a3296d739e0d908811012"), looks := false }, kinds := [], alts := [], laidByText := true, laidKinds := [.data, .data], laidTests := true, laidLooks := .later }
def SnapshotJoinUptoCardSaid : Prop := Claim7.holds Tryd.pinned (.plain (OpenSpec.upto snapshotJoinSpec)) snapshotJoinUptoCard

/-- THE SECOND FORM's CARD OF 'kinkeeplaw42.TransferGuards'. -/
def transferGuardsUptoCard : Claim7 := { stood := { row := transferGuardsUptoRow, standIns := [], harness := (true, "47e2032837afd0e53efac8a87e41fee877345a21867a3296d739e0d908811012"), looks := false }, kinds := [], alts := [], laidByText := true, laidKinds := [.data, .data], laidTests := true, laidLooks := .later }
def TransferGuardsUptoCardSaid : Prop := Claim7.holds Tryd.pinned (.plain (OpenSpec.upto transferGuardsSpec)) transferGuardsUptoCard
end Rows
end Go.Proofs.YtoddabjacjkjbaaDoor
