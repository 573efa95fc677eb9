/-
  DERIVED. GIVEN WITH THE SEED: THE CARDS: each row of YtbgfnofjnbpdgaaDoorRows.lean that lists a variable, with what it lists TIED to the program's text (the seventh form; the later family's looks); each row that meets fmt, with fmt's text TOLD by the authors' own Lean function (tested against real Go, not proved from fmt's source: count such statements apart). THE CARD IS WHAT COUNTS. Prove the row's statement (the work); the ties are given (YtbgfnofjnbpdgaaDoorTie.lean); close each card by the builder's one call (the guide's Derived/Test/ToyasCard.lean, 'card_holds'). Laid BY PROGRAM, IN A SANDBOX (cutbox-door.mjs). By AI agents, Wed Nov 11 2026. No macro, syntax, notation, axiom, sorry.
-/
import Derived.Test.YtbgfnofjnbpdgaaDoorRows
import GoSem.ClaimSeven
namespace Go.Proofs.YtbgfnofjnbpdgaaDoor
namespace Rows

/-- THE TIED CARD OF 'kinkeeplaw26.SnapshotNext'. -/
def snapshotNextCard : Claim7 := { stood := { row := snapshotNextRow, standIns := [], harness := (true, "dd65f2e7230f67ca42ffb86f4f8e958257eca5494d1561468a391f70b0af77c9"), looks := false }, kinds := [], alts := [], laidByText := true, laidKinds := [.data, .data], laidTests := true, laidLooks := .later }
def SnapshotNextCardSaid : Prop := Claim7.holds Tryd.pinned (.plain (OpenSpec.ofChange snapshotNextSpec)) snapshotNextCard

/-- THE TIED CARD OF 'kinkeeplaw26.SnapshotVerifies'. -/
def snapshotVerifiesCard : Claim7 := { stood := { row := snapshotVerifiesRow, standIns := [], harness := (true, "dd65f2e7230f67ca42ffb86f4f8e958257eca5494d1561468a391f70b0af77c9"), looks := false }, kinds := [], alts := [], laidByText := true, laidKinds := [.data, .data], laidTests := true, laidLooks := .later }
def SnapshotVerifiesCardSaid : Prop := Claim7.holds Tryd.pinned (.plain (OpenSpec.ofChange snapshotVerifiesSpec)) snapshotVerifiesCard

/-- THE TIED CARD OF 'kinkeeplaw26.SnapshotBreaks'. -/
def snapshotBreaksCard : Claim7 := { stood := { row := snapshotBreaksRow, standIns := [], harness := (true, "dd65f2e7230f67ca42ffb86f4f8e958257eca5494d1561468a391f70b0af77c9"), looks := false }, kinds := [], alts := [], laidByText := true, laidKinds := [.data, .data], laidTests := true, laidLooks := .later }
def SnapshotBreaksCardSaid : Prop := Claim7.holds Tryd.pinned (.plain (OpenSpec.ofChange snapshotBreaksSpec)) snapshotBreaksCard

/-- THE TIED CARD OF 'kinkeeplaw26.SnapshotSums'. -/
def snapshotSumsCard : Claim7 := { stood := { row := snapshotSumsRow, standIns := [], harness := (true, "dd65f2e7230f67ca42ffb86f4f8e958257eca5494d1561468a391f70b0af77c9"), looks := false }, kinds := [], alts := [], laidByText := true, laidKinds := [.data, .data], laidTests := true, laidLooks := .later }
def SnapshotSumsCardSaid : Prop := Claim7.holds Tryd.pinned (.plain (OpenSpec.ofChange snapshotSumsSpec)) snapshotSumsCard

/-- THE TIED CARD OF 'kinkeeplaw26.SnapshotPlays'. -/
def snapshotPlaysCard : Claim7 := { stood := { row := snapshotPlaysRow, standIns := [], harness := (true, "dd65f2e7230f67ca42ffb86f4f8e958257eca5494d1561468a391f70b0af77c9"), looks := false }, kinds := [], alts := [], laidByText := true, laidKinds := [.data, .data], laidTests := true, laidLooks := .later }
def SnapshotPlaysCardSaid : Prop := Claim7.holds Tryd.pinned (.plain (OpenSpec.ofChange snapshotPlaysSpec)) snapshotPlaysCard

/-- THE TIED CARD OF 'kinkeeplaw26.SnapshotLatest'. -/
def snapshotLatestCard : Claim7 := { stood := { row := snapshotLatestRow, standIns := [], harness := (true, "dd65f2e7230f67ca42ffb86f4f8e958257eca5494d1561468a391f70b0af77c9"), looks := false }, kinds := [], alts := [], laidByText := true, laidKinds := [.data, .data], laidTests := true, laidLooks := .later }
def SnapshotLatestCardSaid : Prop := Claim7.holds Tryd.pinned (.plain (OpenSpec.ofChange snapshotLatestSpec)) snapshotLatestCard

/-- THE TIED CARD OF 'kinkeeplaw26.SnapshotMerges'. -/
def snapshotMergesCard : Claim7 := { stood := { row := snapshotMergesRow, standIns := [], harness := (true, "dd65f2e7230f67ca42ffb86f4f8e958257eca5494d1561468a391f70b0af77c9"), looks := false }, kinds := [], alts := [], laidByText := true, laidKinds := [.data, .data], laidTests := true, laidLooks := .later }
def SnapshotMergesCardSaid : Prop := Claim7.holds Tryd.pinned (.plain (OpenSpec.ofChange snapshotMergesSpec)) snapshotMergesCard

/-- THE TIED CARD OF 'kinkeeplaw26.SnapshotJoin'. -/
def snapshotJoinCard : Claim7 := { stood := { row := snapshotJoinRow, standIns := [], harness := (true, "dd65f2e7230f67ca42ffb86f4f8e958257eca5494d1561468a391f70b0af77c9"), looks := false }, kinds := [], alts := [], laidByText := true, laidKinds := [.data, .data], laidTests := true, laidLooks := .later }
def SnapshotJoinCardSaid : Prop := Claim7.holds Tryd.pinned (.plain (OpenSpec.ofChange snapshotJoinSpec)) snapshotJoinCard

/-- THE TIED CARD OF 'kinkeeplaw26.SnapshotEncodes'. -/
def snapshotEncodesCard : Claim7 := { stood := { row := snapshotEncodesRow, standIns := [], harness := (true, "dd65f2e7230f67ca42ffb86f4f8e958257eca5494d1561468a391f70b0af77c9"), looks := false }, kinds := [], alts := [], laidByText := true, laidKinds := [.data, .data], laidTests := true, laidLooks := .later }
def SnapshotEncodesCardSaid : Prop := Claim7.holds Tryd.pinned (.plain (OpenSpec.ofChange snapshotEncodesSpec)) snapshotEncodesCard

/-- THE TIED CARD OF 'kinkeeplaw26.SnapshotDecodes'. -/
def snapshotDecodesCard : Claim7 := { stood := { row := snapshotDecodesRow, standIns := [], harness := (true, "dd65f2e7230f67ca42ffb86f4f8e958257eca5494d1561468a391f70b0af77c9"), looks := false }, kinds := [], alts := [], laidByText := true, laidKinds := [.data, .data], laidTests := true, laidLooks := .later }
def SnapshotDecodesCardSaid : Prop := Claim7.holds Tryd.pinned (.plain (OpenSpec.ofChange snapshotDecodesSpec)) snapshotDecodesCard

/-- THE SECOND FORM's CARD OF 'kinkeeplaw26.SnapshotNext'. -/
def snapshotNextUptoCard : Claim7 := { stood := { row := snapshotNextUptoRow, standIns := [], harness := (true, "dd65f2e7230f67ca42ffb86f4f8e958257eca5494d1561468a391f70b0af77c9"), looks := false }, kinds := [], alts := [], laidByText := true, laidKinds := [.data, .data], laidTests := true, laidLooks := .later }
def SnapshotNextUptoCardSaid : Prop := Claim7.holds Tryd.pinned (.plain (OpenSpec.upto snapshotNextSpec)) snapshotNextUptoCard

/-- THE SECOND FORM's CARD OF 'kinkeeplaw26.SnapshotVerifies'. -/
def snapshotVerifiesUptoCard : Claim7 := { stood := { row := snapshotVerifiesUptoRow, standIns := [], harness := (true, "dd65f2e7230f67ca42ffb86f4f8e958257eca5494d1561468a391f70b0af77c9"), looks := false }, kinds := [], alts := [], laidByText := true, laidKinds := [.data, .data], laidTests := true, laidLooks := .later }
def SnapshotVerifiesUptoCardSaid : Prop := Claim7.holds Tryd.pinned (.plain (OpenSpec.upto snapshotVerifiesSpec)) snapshotVerifiesUptoCard

/-- THE SECOND FORM's CARD OF 'kinkeeplaw26.SnapshotBreaks'. -/
def snapshotBreaksUptoCard : Claim7 := { stood := { row := snapshotBreaksUptoRow, standIns := [], harness := (true, "dd65f2e7230f67ca42ffb86f4f8e958257eca5494d1561468a391f70b0af77c9"), looks := false }, kinds := [], alts := [], laidByText := true, laidKinds := [.data, .data], laidTests := true, laidLooks := .later }
def SnapshotBreaksUptoCardSaid : Prop := Claim7.holds Tryd.pinned (.plain (OpenSpec.upto snapshotBreaksSpec)) snapshotBreaksUptoCard

/-- THE SECOND FORM's CARD OF 'kinkeeplaw26.SnapshotSums'. -/
def snapshotSumsUptoCard : Claim7 := { stood := { row := snapshotSumsUptoRow, standIns := [], harness := (true, "dd65f2e7230f67ca42ffb86f4f8e958257eca5494d1561468a391f70b0af77c9"), looks := false }, kinds := [], alts := [], laidByText := true, laidKinds := [.data, .data], laidTests := true, laidLooks := .later }
def SnapshotSumsUptoCardSaid : Prop := Claim7.holds Tryd.pinned (.plain (OpenSpec.upto snapshotSumsSpec)) snapshotSumsUptoCard

/-- THE SECOND FORM's CARD OF 'kinkeeplaw26.SnapshotPlays'. -/
def snapshotPlaysUptoCard : Claim7 := { stood := { row := snapshotPlaysUptoRow, standIns := [], harness := (true, "dd65f2e7230f67ca42ffb86f4f8e958257eca5494d1561468a391f70b0af77c9"), looks := false }, kinds := [], alts := [], laidByText := true, laidKinds := [.data, .data], laidTests := true, laidLooks := .later }
def SnapshotPlaysUptoCardSaid : Prop := Claim7.holds Tryd.pinned (.plain (OpenSpec.upto snapshotPlaysSpec)) snapshotPlaysUptoCard

/-- THE SECOND FORM's CARD OF 'kinkeeplaw26.SnapshotLatest'. -/
def snapshotLatestUptoCard : Claim7 := { stood := { row := snapshotLatestUptoRow, standIns := [], harness := (true, "dd65f2e7230f67ca42ffb86f4f8e958257eca5494d1561468a391f70b0af77c9"), looks := false }, kinds := [], alts := [], laidByText := true, laidKinds := [.data, .data], laidTests := true, laidLooks := .later }
def SnapshotLatestUptoCardSaid : Prop := Claim7.holds Tryd.pinned (.plain (OpenSpec.upto snapshotLatestSpec)) snapshotLatestUptoCard

/-- THE SECOND FORM's CARD OF 'kinkeeplaw26.SnapshotMerges'. -/
def snapshotMergesUptoCard : Claim7 := { stood := { row := snapshotMergesUptoRow, standIns := [], harness := (true, "dd65f2e7230f67ca42ffb86f4f8e958257eca5494d1561468a391f70b0af77c9"), looks := false }, kinds := [], alts := [], laidByText := true, laidKinds := [.data, .data], laidTests := true, laidLooks := .later }
def SnapshotMergesUptoCardSaid : Prop := Claim7.holds Tryd.pinned (.plain (OpenSpec.upto snapshotMergesSpec)) snapshotMergesUptoCard

/-- THE SECOND FORM's CARD OF 'kinkeeplaw26.SnapshotJoin'. -/
def snapshotJoinUptoCard : Claim7 := { stood := { row := snapshotJoinUptoRow, standIns := [], harness := (true, "dd65f2e7230f67ca42ffb86f4f8e958257eca5494d1561468a391f70b0af77c9"), looks := false }, kinds := [], alts := [], laidByText := true, laidKinds := [.data, .data], laidTests := true, laidLooks := .later }
def SnapshotJoinUptoCardSaid : Prop := Claim7.holds Tryd.pinned (.plain (OpenSpec.upto snapshotJoinSpec)) snapshotJoinUptoCard

/-- THE SECOND FORM's CARD OF 'kinkeeplaw26.SnapshotEncodes'. -/
def snapshotEncodesUptoCard : Claim7 := { stood := { row := snapshotEncodesUptoRow, standIns := [], harness := (true, "dd65f2e7230f67ca42ffb86f4f8e958257eca5494d1561468a391f70b0af77c9"), looks := false }, kinds := [], alts := [], laidByText := true, laidKinds := [.data, .data], laidTests := true, laidLooks := .later }
def SnapshotEncodesUptoCardSaid : Prop := Claim7.holds Tryd.pinned (.plain (OpenSpec.upto snapshotEncodesSpec)) snapshotEncodesUptoCard

/-- THE SECOND FORM's CARD OF 'kinkeeplaw26.SnapshotDecodes'. -/
def snapshotDecodesUptoCard : Claim7 := { stood := { row := snapshotDecodesUptoRow, standIns := [], harness := (true, "dd65f2e7230f67ca42ffb86f4f8e958257eca5494d1561468a391f70b0af77c9"), looks := false }, kinds := [], alts := [], laidByText := true, laidKinds := [.data, .data], laidTests := true, laidLooks := .later }
def SnapshotDecodesUptoCardSaid : Prop := Claim7.holds Tryd.pinned (.plain (OpenSpec.upto snapshotDecodesSpec)) snapshotDecodesUptoCard
end Rows
end Go.Proofs.YtbgfnofjnbpdgaaDoor
