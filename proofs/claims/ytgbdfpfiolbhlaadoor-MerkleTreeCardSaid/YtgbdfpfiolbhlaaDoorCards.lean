/-
  DERIVED. GIVEN WITH THE SEED: THE CARDS: each row of YtgbdfpfiolbhlaaDoorRows.lean that lists a variable, with what it lists TIED to the program's text (the seventh form; the later family's looks); each row that meets fmt, with fmt's text TOLD by the authors' own Lean function (tested against real Go, not proved from fmt's source: count such statements apart). THE CARD IS WHAT COUNTS. Prove the row's statement (the work); the ties are given (YtgbdfpfiolbhlaaDoorTie.lean); close each card by the builder's one call (the guide's Derived/Test/ToyasCard.lean, 'card_holds'). Laid BY PROGRAM, IN A SANDBOX (cutbox-door.mjs). By AI agents, Wed Nov 11 2026. No macro, syntax, notation, axiom, sorry.
-/
import Derived.Test.YtgbdfpfiolbhlaaDoorRows
import GoSem.ClaimSeven
namespace Go.Proofs.YtgbdfpfiolbhlaaDoor
namespace Rows

/-- THE TIED CARD OF 'kinkeeplaw09.MerkleSums'. -/
def merkleSumsCard : Claim7 := { stood := { row := merkleSumsRow, standIns := [], harness := (true, "2764cbb7ef594d805338fee369f5cddf3ca42910bdc183fc0cfc665c58b48571"), looks := false }, kinds := [], alts := [], laidByText := true, laidKinds := [.data, .data], laidTests := true, laidLooks := .later }
def MerkleSumsCardSaid : Prop := Claim7.holds Tryd.pinned (.plain (OpenSpec.ofChange merkleSumsSpec)) merkleSumsCard

/-- THE TIED CARD OF 'kinkeeplaw09.MerkleRoot'. -/
def merkleRootCard : Claim7 := { stood := { row := merkleRootRow, standIns := [], harness := (true, "2764cbb7ef594d805338fee369f5cddf3ca42910bdc183fc0cfc665c58b48571"), looks := false }, kinds := [], alts := [], laidByText := true, laidKinds := [.data, .data], laidTests := true, laidLooks := .later }
def MerkleRootCardSaid : Prop := Claim7.holds Tryd.pinned (.plain (OpenSpec.ofChange merkleRootSpec)) merkleRootCard

/-- THE TIED CARD OF 'kinkeeplaw09.MerklePath'. -/
def merklePathCard : Claim7 := { stood := { row := merklePathRow, standIns := [], harness := (true, "2764cbb7ef594d805338fee369f5cddf3ca42910bdc183fc0cfc665c58b48571"), looks := false }, kinds := [], alts := [], laidByText := true, laidKinds := [.data, .data], laidTests := true, laidLooks := .later }
def MerklePathCardSaid : Prop := Claim7.holds Tryd.pinned (.plain (OpenSpec.ofChange merklePathSpec)) merklePathCard

/-- THE TIED CARD OF 'kinkeeplaw09.MerkleVerify'. -/
def merkleVerifyCard : Claim7 := { stood := { row := merkleVerifyRow, standIns := [], harness := (true, "2764cbb7ef594d805338fee369f5cddf3ca42910bdc183fc0cfc665c58b48571"), looks := false }, kinds := [], alts := [], laidByText := true, laidKinds := [.data, .data], laidTests := true, laidLooks := .later }
def MerkleVerifyCardSaid : Prop := Claim7.holds Tryd.pinned (.plain (OpenSpec.ofChange merkleVerifySpec)) merkleVerifyCard

/-- THE TIED CARD OF 'kinkeeplaw09.MerkleProves'. -/
def merkleProvesCard : Claim7 := { stood := { row := merkleProvesRow, standIns := [], harness := (true, "2764cbb7ef594d805338fee369f5cddf3ca42910bdc183fc0cfc665c58b48571"), looks := false }, kinds := [], alts := [], laidByText := true, laidKinds := [.data, .data], laidTests := true, laidLooks := .later }
def MerkleProvesCardSaid : Prop := Claim7.holds Tryd.pinned (.plain (OpenSpec.ofChange merkleProvesSpec)) merkleProvesCard

/-- THE TIED CARD OF 'kinkeeplaw09.MerkleSound'. -/
def merkleSoundCard : Claim7 := { stood := { row := merkleSoundRow, standIns := [], harness := (true, "2764cbb7ef594d805338fee369f5cddf3ca42910bdc183fc0cfc665c58b48571"), looks := false }, kinds := [], alts := [], laidByText := true, laidKinds := [.data, .data], laidTests := true, laidLooks := .later }
def MerkleSoundCardSaid : Prop := Claim7.holds Tryd.pinned (.plain (OpenSpec.ofChange merkleSoundSpec)) merkleSoundCard

/-- THE TIED CARD OF 'kinkeeplaw09.MerkleConsistent'. -/
def merkleConsistentCard : Claim7 := { stood := { row := merkleConsistentRow, standIns := [], harness := (true, "2764cbb7ef594d805338fee369f5cddf3ca42910bdc183fc0cfc665c58b48571"), looks := false }, kinds := [], alts := [], laidByText := true, laidKinds := [.data, .data], laidTests := true, laidLooks := .later }
def MerkleConsistentCardSaid : Prop := Claim7.holds Tryd.pinned (.plain (OpenSpec.ofChange merkleConsistentSpec)) merkleConsistentCard

/-- THE TIED CARD OF 'kinkeeplaw09.MerkleExtends'. -/
def merkleExtendsCard : Claim7 := { stood := { row := merkleExtendsRow, standIns := [], harness := (true, "2764cbb7ef594d805338fee369f5cddf3ca42910bdc183fc0cfc665c58b48571"), looks := false }, kinds := [], alts := [], laidByText := true, laidKinds := [.data, .data], laidTests := true, laidLooks := .later }
def MerkleExtendsCardSaid : Prop := Claim7.holds Tryd.pinned (.plain (OpenSpec.ofChange merkleExtendsSpec)) merkleExtendsCard

/-- THE TIED CARD OF 'kinkeeplaw09.MerkleSee'. -/
def merkleSeeCard : Claim7 := { stood := { row := merkleSeeRow, standIns := [], harness := (true, "2764cbb7ef594d805338fee369f5cddf3ca42910bdc183fc0cfc665c58b48571"), looks := false }, kinds := [], alts := [], laidByText := true, laidKinds := [.data, .data], laidTests := true, laidLooks := .later }
def MerkleSeeCardSaid : Prop := Claim7.holds Tryd.pinned (.plain (OpenSpec.ofChange merkleSeeSpec)) merkleSeeCard

/-- THE TIED CARD OF 'kinkeeplaw09.MerkleBlocks'. -/
def merkleBlocksCard : Claim7 := { stood := { row := merkleBlocksRow, standIns := [], harness := (true, "2764cbb7ef594d805338fee369f5cddf3ca42910bdc183fc0cfc665c58b48571"), looks := false }, kinds := [], alts := [], laidByText := true, laidKinds := [.data, .data], laidTests := true, laidLooks := .later }
def MerkleBlocksCardSaid : Prop := Claim7.holds Tryd.pinned (.plain (OpenSpec.ofChange merkleBlocksSpec)) merkleBlocksCard

/-- THE TIED CARD OF 'kinkeeplaw09.MerkleShows'. -/
def merkleShowsCard : Claim7 := { stood := { row := merkleShowsRow, standIns := [], harness := (true, "2764cbb7ef594d805338fee369f5cddf3ca42910bdc183fc0cfc665c58b48571"), looks := false }, kinds := [], alts := [], laidByText := true, laidKinds := [.data, .data], laidTests := true, laidLooks := .later }
def MerkleShowsCardSaid : Prop := Claim7.holds Tryd.pinned (.plain (OpenSpec.ofChange merkleShowsSpec)) merkleShowsCard

/-- THE TIED CARD OF 'kinkeeplaw09.MerkleGrows'. -/
def merkleGrowsCard : Claim7 := { stood := { row := merkleGrowsRow, standIns := [], harness := (true, "2764cbb7ef594d805338fee369f5cddf3ca42910bdc183fc0cfc665c58b48571"), looks := false }, kinds := [], alts := [], laidByText := true, laidKinds := [.data, .data], laidTests := true, laidLooks := .later }
def MerkleGrowsCardSaid : Prop := Claim7.holds Tryd.pinned (.plain (OpenSpec.ofChange merkleGrowsSpec)) merkleGrowsCard

/-- THE TIED CARD OF 'kinkeeplaw09.MerkleTree'. -/
def merkleTreeCard : Claim7 := { stood := { row := merkleTreeRow, standIns := [], harness := (true, "2764cbb7ef594d805338fee369f5cddf3ca42910bdc183fc0cfc665c58b48571"), looks := false }, kinds := [], alts := [], laidByText := true, laidKinds := [.data, .data], laidTests := true, laidLooks := .later }
def MerkleTreeCardSaid : Prop := Claim7.holds Tryd.pinned (.plain (OpenSpec.ofChange merkleTreeSpec)) merkleTreeCard

/-- THE SECOND FORM's CARD OF 'kinkeeplaw09.MerkleSums'. -/
def merkleSumsUptoCard : Claim7 := { stood := { row := merkleSumsUptoRow, standIns := [], harness := (true, "2764cbb7ef594d805338fee369f5cddf3ca42910bdc183fc0cfc665c58b48571"), looks := false }, kinds := [], alts := [], laidByText := true, laidKinds := [.data, .data], laidTests := true, laidLooks := .later }
def MerkleSumsUptoCardSaid : Prop := Claim7.holds Tryd.pinned (.plain (OpenSpec.upto merkleSumsSpec)) merkleSumsUptoCard

/-- THE SECOND FORM's CARD OF 'kinkeeplaw09.MerkleRoot'. -/
def merkleRootUptoCard : Claim7 := { stood := { row := merkleRootUptoRow, standIns := [], harness := (true, "2764cbb7ef594d805338fee369f5cddf3ca42910bdc183fc0cfc665c58b48571"), looks := false }, kinds := [], alts := [], laidByText := true, laidKinds := [.data, .data], laidTests := true, laidLooks := .later }
def MerkleRootUptoCardSaid : Prop := Claim7.holds Tryd.pinned (.plain (OpenSpec.upto merkleRootSpec)) merkleRootUptoCard

/-- THE SECOND FORM's CARD OF 'kinkeeplaw09.MerklePath'. -/
def merklePathUptoCard : Claim7 := { stood := { row := merklePathUptoRow, standIns := [], harness := (true, "2764cbb7ef594d805338fee369f5cddf3ca42910bdc183fc0cfc665c58b48571"), looks := false }, kinds := [], alts := [], laidByText := true, laidKinds := [.data, .data], laidTests := true, laidLooks := .later }
def MerklePathUptoCardSaid : Prop := Claim7.holds Tryd.pinned (.plain (OpenSpec.upto merklePathSpec)) merklePathUptoCard

/-- THE SECOND FORM's CARD OF 'kinkeeplaw09.MerkleVerify'. -/
def merkleVerifyUptoCard : Claim7 := { stood := { row := merkleVerifyUptoRow, standIns := [], harness := (true, "2764cbb7ef594d805338fee369f5cddf3ca42910bdc183fc0cfc665c58b48571"), looks := false }, kinds := [], alts := [], laidByText := true, laidKinds := [.data, .data], laidTests := true, laidLooks := .later }
def MerkleVerifyUptoCardSaid : Prop := Claim7.holds Tryd.pinned (.plain (OpenSpec.upto merkleVerifySpec)) merkleVerifyUptoCard

/-- THE SECOND FORM's CARD OF 'kinkeeplaw09.MerkleProves'. -/
def merkleProvesUptoCard : Claim7 := { stood := { row := merkleProvesUptoRow, standIns := [], harness := (true, "2764cbb7ef594d805338fee369f5cddf3ca42910bdc183fc0cfc665c58b48571"), looks := false }, kinds := [], alts := [], laidByText := true, laidKinds := [.data, .data], laidTests := true, laidLooks := .later }
def MerkleProvesUptoCardSaid : Prop := Claim7.holds Tryd.pinned (.plain (OpenSpec.upto merkleProvesSpec)) merkleProvesUptoCard

/-- THE SECOND FORM's CARD OF 'kinkeeplaw09.MerkleSound'. -/
def merkleSoundUptoCard : Claim7 := { stood := { row := merkleSoundUptoRow, standIns := [], harness := (true, "2764cbb7ef594d805338fee369f5cddf3ca42910bdc183fc0cfc665c58b48571"), looks := false }, kinds := [], alts := [], laidByText := true, laidKinds := [.data, .data], laidTests := true, laidLooks := .later }
def MerkleSoundUptoCardSaid : Prop := Claim7.holds Tryd.pinned (.plain (OpenSpec.upto merkleSoundSpec)) merkleSoundUptoCard

/-- THE SECOND FORM's CARD OF 'kinkeeplaw09.MerkleConsistent'. -/
def merkleConsistentUptoCard : Claim7 := { stood := { row := merkleConsistentUptoRow, standIns := [], harness := (true, "2764cbb7ef594d805338fee369f5cddf3ca42910bdc183fc0cfc665c58b48571"), looks := false }, kinds := [], alts := [], laidByText := true, laidKinds := [.data, .data], laidTests := true, laidLooks := .later }
def MerkleConsistentUptoCardSaid : Prop := Claim7.holds Tryd.pinned (.plain (OpenSpec.upto merkleConsistentSpec)) merkleConsistentUptoCard

/-- THE SECOND FORM's CARD OF 'kinkeeplaw09.MerkleExtends'. -/
def merkleExtendsUptoCard : Claim7 := { stood := { row := merkleExtendsUptoRow, standIns := [], harness := (true, "2764cbb7ef594d805338fee369f5cddf3ca42910bdc183fc0cfc665c58b48571"), looks := false }, kinds := [], alts := [], laidByText := true, laidKinds := [.data, .data], laidTests := true, laidLooks := .later }
def MerkleExtendsUptoCardSaid : Prop := Claim7.holds Tryd.pinned (.plain (OpenSpec.upto merkleExtendsSpec)) merkleExtendsUptoCard

/-- THE SECOND FORM's CARD OF 'kinkeeplaw09.MerkleSee'. -/
def merkleSeeUptoCard : Claim7 := { stood := { row := merkleSeeUptoRow, standIns := [], harness := (true, "2764cbb7ef594d805338fee369f5cddf3ca42910bdc183fc0cfc665c58b48571"), looks := false }, kinds := [], alts := [], laidByText := true, laidKinds := [.data, .data], laidTests := true, laidLooks := .later }
def MerkleSeeUptoCardSaid : Prop := Claim7.holds Tryd.pinned (.plain (OpenSpec.upto merkleSeeSpec)) merkleSeeUptoCard

/-- THE SECOND FORM's CARD OF 'kinkeeplaw09.MerkleBlocks'. -/
def merkleBlocksUptoCard : Claim7 := { stood := { row := merkleBlocksUptoRow, standIns := [], harness := (true, "2764cbb7ef594d805338fee369f5cddf3ca42910bdc183fc0cfc665c58b48571"), looks := false }, kinds := [], alts := [], laidByText := true, laidKinds := [.data, .data], laidTests := true, laidLooks := .later }
def MerkleBlocksUptoCardSaid : Prop := Claim7.holds Tryd.pinned (.plain (OpenSpec.upto merkleBlocksSpec)) merkleBlocksUptoCard

/-- THE SECOND FORM's CARD OF 'kinkeeplaw09.MerkleShows'. -/
def merkleShowsUptoCard : Claim7 := { stood := { row := merkleShowsUptoRow, standIns := [], harness := (true, "2764cbb7ef594d805338fee369f5cddf3ca42910bdc183fc0cfc665c58b48571"), looks := false }, kinds := [], alts := [], laidByText := true, laidKinds := [.data, .data], laidTests := true, laidLooks := .later }
def MerkleShowsUptoCardSaid : Prop := Claim7.holds Tryd.pinned (.plain (OpenSpec.upto merkleShowsSpec)) merkleShowsUptoCard

/-- THE SECOND FORM's CARD OF 'kinkeeplaw09.MerkleGrows'. -/
def merkleGrowsUptoCard : Claim7 := { stood := { row := merkleGrowsUptoRow, standIns := [], harness := (true, "2764cbb7ef594d805338fee369f5cddf3ca42910bdc183fc0cfc665c58b48571"), looks := false }, kinds := [], alts := [], laidByText := true, laidKinds := [.data, .data], laidTests := true, laidLooks := .later }
def MerkleGrowsUptoCardSaid : Prop := Claim7.holds Tryd.pinned (.plain (OpenSpec.upto merkleGrowsSpec)) merkleGrowsUptoCard

/-- THE SECOND FORM's CARD OF 'kinkeeplaw09.MerkleTree'. -/
def merkleTreeUptoCard : Claim7 := { stood := { row := merkleTreeUptoRow, standIns := [], harness := (true, "2764cbb7ef594d805338fee369f5cddf3ca42910bdc183fc0cfc665c58b48571"), looks := false }, kinds := [], alts := [], laidByText := true, laidKinds := [.data, .data], laidTests := true, laidLooks := .later }
def MerkleTreeUptoCardSaid : Prop := Claim7.holds Tryd.pinned (.plain (OpenSpec.upto merkleTreeSpec)) merkleTreeUptoCard
end Rows
end Go.Proofs.YtgbdfpfiolbhlaaDoor
