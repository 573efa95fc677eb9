/-
  DERIVED. GIVEN WITH THE SEED: THE CARDS: each row of YtgnmbgbiajgpeaaDoorRows.lean that lists a variable, with what it lists TIED to the program's text (the seventh form; the later family's looks); each row that meets fmt, with fmt's text TOLD by the authors' own Lean function (tested against real Go, not proved from fmt's source: count such statements apart). THE CARD IS WHAT COUNTS. Prove the row's statement (the work); the ties are given (YtgnmbgbiajgpeaaDoorTie.lean); close each card by the builder's one call (the guide's Derived/Test/ToyasCard.lean, 'card_holds'). Laid BY PROGRAM, IN A SANDBOX (cutbox-door.mjs). By AI agents, Wed Nov 11 2026. No macro, syntax, notation, axiom, sorry.
-/
import Derived.Test.YtgnmbgbiajgpeaaDoorRows
import GoSem.ClaimSeven
namespace Go.Proofs.YtgnmbgbiajgpeaaDoor
namespace Rows

/-- THE TIED CARD OF 'kinkeeptop.TopAltered'. -/
def topAlteredCard : Claim7 := { stood := { row := topAlteredRow, standIns := [], harness := (true, "d6ff0c9c452413627c20527eeed7ec611698eced25dabc4d31bcd3b756bf0259"), looks := false }, kinds := [], alts := [], laidByText := true, laidKinds := [.data, .data], laidTests := true, laidLooks := .later }
def TopAlteredCardSaid : Prop := Claim7.holds Tryd.pinned (.plain (OpenSpec.ofChange topAlteredSpec)) topAlteredCard

/-- THE TIED CARD OF 'kinkeeptop.TopSecretPieces'. -/
def topSecretPiecesCard : Claim7 := { stood := { row := topSecretPiecesRow, standIns := [], harness := (true, "d6ff0c9c452413627c20527eeed7ec611698eced25dabc4d31bcd3b756bf0259"), looks := false }, kinds := [], alts := [], laidByText := true, laidKinds := [.data, .data], laidTests := true, laidLooks := .later }
def TopSecretPiecesCardSaid : Prop := Claim7.holds Tryd.pinned (.plain (OpenSpec.ofChange topSecretPiecesSpec)) topSecretPiecesCard

/-- THE TIED CARD OF 'kinkeeptop.TopAlteredPart'. -/
def topAlteredPartCard : Claim7 := { stood := { row := topAlteredPartRow, standIns := [], harness := (true, "d6ff0c9c452413627c20527eeed7ec611698eced25dabc4d31bcd3b756bf0259"), looks := false }, kinds := [], alts := [], laidByText := true, laidKinds := [.data, .data], laidTests := true, laidLooks := .later }
def TopAlteredPartCardSaid : Prop := Claim7.holds Tryd.pinned (.plain (OpenSpec.ofChange topAlteredPartSpec)) topAlteredPartCard

/-- THE SECOND FORM's CARD OF 'kinkeeptop.TopAltered'. -/
def topAlteredUptoCard : Claim7 := { stood := { row := topAlteredUptoRow, standIns := [], harness := (true, "d6ff0c9c452413627c20527eeed7ec611698eced25dabc4d31bcd3b756bf0259"), looks := false }, kinds := [], alts := [], laidByText := true, laidKinds := [.data, .data], laidTests := true, laidLooks := .later }
def TopAlteredUptoCardSaid : Prop := Claim7.holds Tryd.pinned (.plain (OpenSpec.upto topAlteredSpec)) topAlteredUptoCard

/-- THE SECOND FORM's CARD OF 'kinkeeptop.TopSecretPieces'. -/
def topSecretPiecesUptoCard : Claim7 := { stood := { row := topSecretPiecesUptoRow, standIns := [], harness := (true, "d6ff0c9c452413627c20527eeed7ec611698eced25dabc4d31bcd3b756bf0259"), looks := false }, kinds := [], alts := [], laidByText := true, laidKinds := [.data, .data], laidTests := true, laidLooks := .later }
def TopSecretPiecesUptoCardSaid : Prop := Claim7.holds Tryd.pinned (.plain (OpenSpec.upto topSecretPiecesSpec)) topSecretPiecesUptoCard

/-- THE SECOND FORM's CARD OF 'kinkeeptop.TopAlteredPart'. -/
def topAlteredPartUptoCard : Claim7 := { stood := { row := topAlteredPartUptoRow, standIns := [], harness := (true, "d6ff0c9c452413627c20527eeed7ec611698eced25dabc4d31bcd3b756bf0259"), looks := false }, kinds := [], alts := [], laidByText := true, laidKinds := [.data, .data], laidTests := true, laidLooks := .later }
def TopAlteredPartUptoCardSaid : Prop := Claim7.holds Tryd.pinned (.plain (OpenSpec.upto topAlteredPartSpec)) topAlteredPartUptoCard
end Rows
end Go.Proofs.YtgnmbgbiajgpeaaDoor
