/-
  NARROWER THAN 'FOR EVERY INPUT', by the rows' own cells (each row's printed sentence says how): MerkleSums: laid · MerkleRoot: laid · MerklePath: laid · MerkleVerify: laid · MerkleProves: laid · MerkleSound: laid · MerkleConsistent: laid · MerkleExtends: laid · MerkleSee: laid · MerkleBlocks: laid · MerkleShows: laid · MerkleGrows: laid · MerkleTree: laid.
  DERIVED. THE GIVEN ROWS OF THIS SEAT. 13 by the template 'for every input the law returns true; each argument reads behind the call as it read before'; 0 by the template 'total and deterministic' (their statements: YtgbdfpfiolbhlaaDoorTotals.lean).
  GIVEN WITH THE SEED: the statements are not yours to turn. If you find one false, say at which input.
  Laid BY PROGRAM, IN A SANDBOX (cutbox-rows.mjs): the forced cells as the released guide's own fill.sh prints them over the translation 1c7e03786e2b262f… (all of the seat's roots in one cut). By AI agents, Wed Nov 11 2026. No macro, syntax, notation, axiom, sorry.
-/
import Derived.Test.YtgbdfpfiolbhlaaDoorChecked
import GoSem.Claim
import GoSem.ClaimJoined
import GoSem.ClaimMapViews
import Derived.JoinedTies
import Derived.KernelRfl
namespace Go.Proofs.YtgbdfpfiolbhlaaDoor
/- THE CELL 'sum', in the pinned program and in every row, IS THE sha256 OF THE DUMP (.gsa) THAT YtgbdfpfiolbhlaaDoorProg.lean LOADS. Nothing in Lean hashes anything: it is a label: what it is worth is what the hold of that sum in a sandbox is worth. -/
noncomputable def Tryd.pinned : Pinned := { name := "ytgbdfpfiolbhlaadoor", sum := "1c7e03786e2b262f9a90c50292f1b3a9170919522e077f15d3ecf8f3ac2f67f7", checked := Tryd.checked }
namespace Rows
def none {H : Type} : Left H := { results := [], args := [] }

/- WHAT THE LISTED PACKAGE-LEVEL VARIABLES READ AS WHEN THE CALL BEGINS. Each datum BY PROGRAM (the guide's laid-datum.mjs) off the statement by which the dump's own 'gosem.cut.vars' lays the variable. In a bare row this is a premise. The card (YtgbdfpfiolbhlaaDoorCards.lean) ties it to the program's text. -/
def laid_kinkeep_sha256_initial {H : Type} : DataW H := .agg [.lit (.int .u32 1779033703), .lit (.int .u32 3144134277), .lit (.int .u32 1013904242), .lit (.int .u32 2773480762), .lit (.int .u32 1359893119), .lit (.int .u32 2600822924), .lit (.int .u32 528734635), .lit (.int .u32 1541459225)]
def laid_kinkeep_sha256_constants {H : Type} : DataW H := .agg [.lit (.int .u32 1116352408), .lit (.int .u32 1899447441), .lit (.int .u32 3049323471), .lit (.int .u32 3921009573), .lit (.int .u32 961987163), .lit (.int .u32 1508970993), .lit (.int .u32 2453635748), .lit (.int .u32 2870763221), .lit (.int .u32 3624381080), .lit (.int .u32 310598401), .lit (.int .u32 607225278), .lit (.int .u32 1426881987), .lit (.int .u32 1925078388), .lit (.int .u32 2162078206), .lit (.int .u32 2614888103), .lit (.int .u32 3248222580), .lit (.int .u32 3835390401), .lit (.int .u32 4022224774), .lit (.int .u32 264347078), .lit (.int .u32 604807628), .lit (.int .u32 770255983), .lit (.int .u32 1249150122), .lit (.int .u32 1555081692), .lit (.int .u32 1996064986), .lit (.int .u32 2554220882), .lit (.int .u32 2821834349), .lit (.int .u32 2952996808), .lit (.int .u32 3210313671), .lit (.int .u32 3336571891), .lit (.int .u32 3584528711), .lit (.int .u32 113926993), .lit (.int .u32 338241895), .lit (.int .u32 666307205), .lit (.int .u32 773529912), .lit (.int .u32 1294757372), .lit (.int .u32 1396182291), .lit (.int .u32 1695183700), .lit (.int .u32 1986661051), .lit (.int .u32 2177026350), .lit (.int .u32 2456956037), .lit (.int .u32 2730485921), .lit (.int .u32 2820302411), .lit (.int .u32 3259730800), .lit (.int .u32 3345764771), .lit (.int .u32 3516065817), .lit (.int .u32 3600352804), .lit (.int .u32 4094571909), .lit (.int .u32 275423344), .lit (.int .u32 430227734), .lit (.int .u32 506948616), .lit (.int .u32 659060556), .lit (.int .u32 883997877), .lit (.int .u32 958139571), .lit (.int .u32 1322822218), .lit (.int .u32 1537002063), .lit (.int .u32 1747873779), .lit (.int .u32 1955562222), .lit (.int .u32 2024104815), .lit (.int .u32 2227730452), .lit (.int .u32 2361852424), .lit (.int .u32 2428436474), .lit (.int .u32 2756734187), .lit (.int .u32 3204031479), .lit (.int .u32 3329325298)]

/-- 'kinkeeplaw09.MerkleSums': WHATEVER THE INPUT: true; the input reads as it did. -/
def merkleSumsSpec : ChangeSpec := { name := "merkleSums", fn := fun _ => fun
  | [d1, d2, d3] => { results := [.lit (.bool true)], args := [d1, d2, d3] }
  | _ => none }
def merkleSumsRow : OpenClaim := { program := "ytgbdfpfiolbhlaadoor", sum := "1c7e03786e2b262f9a90c50292f1b3a9170919522e077f15d3ecf8f3ac2f67f7", func := "kinkeep/kinkeeplaw09.MerkleSums", spec := "merkleSums", unfollowed := true, recurses := true, named := ["kinkeep/sha256.initial", "kinkeep/sha256.constants"], apart := false, laid := [("kinkeep/sha256.initial", laid_kinkeep_sha256_initial), ("kinkeep/sha256.constants", laid_kinkeep_sha256_constants)] }
def MerkleSumsSaid : Prop := merkleSumsRow.holds Tryd.pinned (OpenSpec.ofChange merkleSumsSpec)

/-- ITS FALSE NEIGHBOUR: 'it returns false'. Refute it at one input. -/
def merkleSumsWrong : ChangeSpec := { name := "merkleSums", fn := fun _ => fun
  | [d1, d2, d3] => { results := [.lit (.bool false)], args := [d1, d2, d3] }
  | _ => none }
def MerkleSumsWrongFalsely : Prop := merkleSumsRow.holds Tryd.pinned (OpenSpec.ofChange merkleSumsWrong)

/-- 'kinkeeplaw09.MerkleRoot': WHATEVER THE INPUT: true; the input reads as it did. -/
def merkleRootSpec : ChangeSpec := { name := "merkleRoot", fn := fun _ => fun
  | [d] => { results := [.lit (.bool true)], args := [d] }
  | _ => none }
def merkleRootRow : OpenClaim := { program := "ytgbdfpfiolbhlaadoor", sum := "1c7e03786e2b262f9a90c50292f1b3a9170919522e077f15d3ecf8f3ac2f67f7", func := "kinkeep/kinkeeplaw09.MerkleRoot", spec := "merkleRoot", unfollowed := true, recurses := true, named := ["kinkeep/sha256.initial", "kinkeep/sha256.constants"], apart := false, laid := [("kinkeep/sha256.initial", laid_kinkeep_sha256_initial), ("kinkeep/sha256.constants", laid_kinkeep_sha256_constants)] }
def MerkleRootSaid : Prop := merkleRootRow.holds Tryd.pinned (OpenSpec.ofChange merkleRootSpec)

/-- ITS FALSE NEIGHBOUR: 'it returns false'. Refute it at one input. -/
def merkleRootWrong : ChangeSpec := { name := "merkleRoot", fn := fun _ => fun
  | [d] => { results := [.lit (.bool false)], args := [d] }
  | _ => none }
def MerkleRootWrongFalsely : Prop := merkleRootRow.holds Tryd.pinned (OpenSpec.ofChange merkleRootWrong)

/-- 'kinkeeplaw09.MerklePath': WHATEVER THE INPUT: true; the input reads as it did. -/
def merklePathSpec : ChangeSpec := { name := "merklePath", fn := fun _ => fun
  | [d1, d2] => { results := [.lit (.bool true)], args := [d1, d2] }
  | _ => none }
def merklePathRow : OpenClaim := { program := "ytgbdfpfiolbhlaadoor", sum := "1c7e03786e2b262f9a90c50292f1b3a9170919522e077f15d3ecf8f3ac2f67f7", func := "kinkeep/kinkeeplaw09.MerklePath", spec := "merklePath", unfollowed := true, recurses := true, named := ["kinkeep/sha256.initial", "kinkeep/sha256.constants"], apart := false, laid := [("kinkeep/sha256.initial", laid_kinkeep_sha256_initial), ("kinkeep/sha256.constants", laid_kinkeep_sha256_constants)] }
def MerklePathSaid : Prop := merklePathRow.holds Tryd.pinned (OpenSpec.ofChange merklePathSpec)

/-- ITS FALSE NEIGHBOUR: 'it returns false'. Refute it at one input. -/
def merklePathWrong : ChangeSpec := { name := "merklePath", fn := fun _ => fun
  | [d1, d2] => { results := [.lit (.bool false)], args := [d1, d2] }
  | _ => none }
def MerklePathWrongFalsely : Prop := merklePathRow.holds Tryd.pinned (OpenSpec.ofChange merklePathWrong)

/-- 'kinkeeplaw09.MerkleVerify': WHATEVER THE INPUT: true; the input reads as it did. -/
def merkleVerifySpec : ChangeSpec := { name := "merkleVerify", fn := fun _ => fun
  | [d1, d2, d3, d4, d5] => { results := [.lit (.bool true)], args := [d1, d2, d3, d4, d5] }
  | _ => none }
def merkleVerifyRow : OpenClaim := { program := "ytgbdfpfiolbhlaadoor", sum := "1c7e03786e2b262f9a90c50292f1b3a9170919522e077f15d3ecf8f3ac2f67f7", func := "kinkeep/kinkeeplaw09.MerkleVerify", spec := "merkleVerify", unfollowed := true, recurses := true, named := ["kinkeep/sha256.initial", "kinkeep/sha256.constants"], apart := false, laid := [("kinkeep/sha256.initial", laid_kinkeep_sha256_initial), ("kinkeep/sha256.constants", laid_kinkeep_sha256_constants)] }
def MerkleVerifySaid : Prop := merkleVerifyRow.holds Tryd.pinned (OpenSpec.ofChange merkleVerifySpec)

/-- ITS FALSE NEIGHBOUR: 'it returns false'. Refute it at one input. -/
def merkleVerifyWrong : ChangeSpec := { name := "merkleVerify", fn := fun _ => fun
  | [d1, d2, d3, d4, d5] => { results := [.lit (.bool false)], args := [d1, d2, d3, d4, d5] }
  | _ => none }
def MerkleVerifyWrongFalsely : Prop := merkleVerifyRow.holds Tryd.pinned (OpenSpec.ofChange merkleVerifyWrong)

/-- 'kinkeeplaw09.MerkleProves': WHATEVER THE INPUT: true; the input reads as it did. -/
def merkleProvesSpec : ChangeSpec := { name := "merkleProves", fn := fun _ => fun
  | [d1, d2] => { results := [.lit (.bool true)], args := [d1, d2] }
  | _ => none }
def merkleProvesRow : OpenClaim := { program := "ytgbdfpfiolbhlaadoor", sum := "1c7e03786e2b262f9a90c50292f1b3a9170919522e077f15d3ecf8f3ac2f67f7", func := "kinkeep/kinkeeplaw09.MerkleProves", spec := "merkleProves", unfollowed := true, recurses := true, named := ["kinkeep/sha256.initial", "kinkeep/sha256.constants"], apart := false, laid := [("kinkeep/sha256.initial", laid_kinkeep_sha256_initial), ("kinkeep/sha256.constants", laid_kinkeep_sha256_constants)] }
def MerkleProvesSaid : Prop := merkleProvesRow.holds Tryd.pinned (OpenSpec.ofChange merkleProvesSpec)

/-- ITS FALSE NEIGHBOUR: 'it returns false'. Refute it at one input. -/
def merkleProvesWrong : ChangeSpec := { name := "merkleProves", fn := fun _ => fun
  | [d1, d2] => { results := [.lit (.bool false)], args := [d1, d2] }
  | _ => none }
def MerkleProvesWrongFalsely : Prop := merkleProvesRow.holds Tryd.pinned (OpenSpec.ofChange merkleProvesWrong)

/-- 'kinkeeplaw09.MerkleSound': WHATEVER THE INPUT: true; the input reads as it did. -/
def merkleSoundSpec : ChangeSpec := { name := "merkleSound", fn := fun _ => fun
  | [d1, d2, d3, d4] => { results := [.lit (.bool true)], args := [d1, d2, d3, d4] }
  | _ => none }
def merkleSoundRow : OpenClaim := { program := "ytgbdfpfiolbhlaadoor", sum := "1c7e03786e2b262f9a90c50292f1b3a9170919522e077f15d3ecf8f3ac2f67f7", func := "kinkeep/kinkeeplaw09.MerkleSound", spec := "merkleSound", unfollowed := true, recurses := true, named := ["kinkeep/sha256.initial", "kinkeep/sha256.constants"], apart := false, laid := [("kinkeep/sha256.initial", laid_kinkeep_sha256_initial), ("kinkeep/sha256.constants", laid_kinkeep_sha256_constants)] }
def MerkleSoundSaid : Prop := merkleSoundRow.holds Tryd.pinned (OpenSpec.ofChange merkleSoundSpec)

/-- ITS FALSE NEIGHBOUR: 'it returns false'. Refute it at one input. -/
def merkleSoundWrong : ChangeSpec := { name := "merkleSound", fn := fun _ => fun
  | [d1, d2, d3, d4] => { results := [.lit (.bool false)], args := [d1, d2, d3, d4] }
  | _ => none }
def MerkleSoundWrongFalsely : Prop := merkleSoundRow.holds Tryd.pinned (OpenSpec.ofChange merkleSoundWrong)

/-- 'kinkeeplaw09.MerkleConsistent': WHATEVER THE INPUT: true; the input reads as it did. -/
def merkleConsistentSpec : ChangeSpec := { name := "merkleConsistent", fn := fun _ => fun
  | [d1, d2, d3, d4, d5] => { results := [.lit (.bool true)], args := [d1, d2, d3, d4, d5] }
  | _ => none }
def merkleConsistentRow : OpenClaim := { program := "ytgbdfpfiolbhlaadoor", sum := "1c7e03786e2b262f9a90c50292f1b3a9170919522e077f15d3ecf8f3ac2f67f7", func := "kinkeep/kinkeeplaw09.MerkleConsistent", spec := "merkleConsistent", unfollowed := true, recurses := true, named := ["kinkeep/sha256.initial", "kinkeep/sha256.constants"], apart := false, laid := [("kinkeep/sha256.initial", laid_kinkeep_sha256_initial), ("kinkeep/sha256.constants", laid_kinkeep_sha256_constants)] }
def MerkleConsistentSaid : Prop := merkleConsistentRow.holds Tryd.pinned (OpenSpec.ofChange merkleConsistentSpec)

/-- ITS FALSE NEIGHBOUR: 'it returns false'. Refute it at one input. -/
def merkleConsistentWrong : ChangeSpec := { name := "merkleConsistent", fn := fun _ => fun
  | [d1, d2, d3, d4, d5] => { results := [.lit (.bool false)], args := [d1, d2, d3, d4, d5] }
  | _ => none }
def MerkleConsistentWrongFalsely : Prop := merkleConsistentRow.holds Tryd.pinned (OpenSpec.ofChange merkleConsistentWrong)

/-- 'kinkeeplaw09.MerkleExtends': WHATEVER THE INPUT: true; the input reads as it did. -/
def merkleExtendsSpec : ChangeSpec := { name := "merkleExtends", fn := fun _ => fun
  | [d1, d2, d3, d4] => { results := [.lit (.bool true)], args := [d1, d2, d3, d4] }
  | _ => none }
def merkleExtendsRow : OpenClaim := { program := "ytgbdfpfiolbhlaadoor", sum := "1c7e03786e2b262f9a90c50292f1b3a9170919522e077f15d3ecf8f3ac2f67f7", func := "kinkeep/kinkeeplaw09.MerkleExtends", spec := "merkleExtends", unfollowed := true, recurses := true, named := ["kinkeep/sha256.initial", "kinkeep/sha256.constants"], apart := false, laid := [("kinkeep/sha256.initial", laid_kinkeep_sha256_initial), ("kinkeep/sha256.constants", laid_kinkeep_sha256_constants)] }
def MerkleExtendsSaid : Prop := merkleExtendsRow.holds Tryd.pinned (OpenSpec.ofChange merkleExtendsSpec)

/-- ITS FALSE NEIGHBOUR: 'it returns false'. Refute it at one input. -/
def merkleExtendsWrong : ChangeSpec := { name := "merkleExtends", fn := fun _ => fun
  | [d1, d2, d3, d4] => { results := [.lit (.bool false)], args := [d1, d2, d3, d4] }
  | _ => none }
def MerkleExtendsWrongFalsely : Prop := merkleExtendsRow.holds Tryd.pinned (OpenSpec.ofChange merkleExtendsWrong)

/-- 'kinkeeplaw09.MerkleSee': WHATEVER THE INPUT: true; the input reads as it did. -/
def merkleSeeSpec : ChangeSpec := { name := "merkleSee", fn := fun _ => fun
  | [d1, d2, d3, d4, d5, d6] => { results := [.lit (.bool true)], args := [d1, d2, d3, d4, d5, d6] }
  | _ => none }
def merkleSeeRow : OpenClaim := { program := "ytgbdfpfiolbhlaadoor", sum := "1c7e03786e2b262f9a90c50292f1b3a9170919522e077f15d3ecf8f3ac2f67f7", func := "kinkeep/kinkeeplaw09.MerkleSee", spec := "merkleSee", unfollowed := true, recurses := true, named := ["kinkeep/sha256.initial", "kinkeep/sha256.constants"], apart := false, laid := [("kinkeep/sha256.initial", laid_kinkeep_sha256_initial), ("kinkeep/sha256.constants", laid_kinkeep_sha256_constants)] }
def MerkleSeeSaid : Prop := merkleSeeRow.holds Tryd.pinned (OpenSpec.ofChange merkleSeeSpec)

/-- ITS FALSE NEIGHBOUR: 'it returns false'. Refute it at one input. -/
def merkleSeeWrong : ChangeSpec := { name := "merkleSee", fn := fun _ => fun
  | [d1, d2, d3, d4, d5, d6] => { results := [.lit (.bool false)], args := [d1, d2, d3, d4, d5, d6] }
  | _ => none }
def MerkleSeeWrongFalsely : Prop := merkleSeeRow.holds Tryd.pinned (OpenSpec.ofChange merkleSeeWrong)

/-- 'kinkeeplaw09.MerkleBlocks': WHATEVER THE INPUT: true; the input reads as it did. -/
def merkleBlocksSpec : ChangeSpec := { name := "merkleBlocks", fn := fun _ => fun
  | [d1, d2, d3] => { results := [.lit (.bool true)], args := [d1, d2, d3] }
  | _ => none }
def merkleBlocksRow : OpenClaim := { program := "ytgbdfpfiolbhlaadoor", sum := "1c7e03786e2b262f9a90c50292f1b3a9170919522e077f15d3ecf8f3ac2f67f7", func := "kinkeep/kinkeeplaw09.MerkleBlocks", spec := "merkleBlocks", unfollowed := true, recurses := true, named := ["kinkeep/sha256.initial", "kinkeep/sha256.constants"], apart := false, laid := [("kinkeep/sha256.initial", laid_kinkeep_sha256_initial), ("kinkeep/sha256.constants", laid_kinkeep_sha256_constants)] }
def MerkleBlocksSaid : Prop := merkleBlocksRow.holds Tryd.pinned (OpenSpec.ofChange merkleBlocksSpec)

/-- ITS FALSE NEIGHBOUR: 'it returns false'. Refute it at one input. -/
def merkleBlocksWrong : ChangeSpec := { name := "merkleBlocks", fn := fun _ => fun
  | [d1, d2, d3] => { results := [.lit (.bool false)], args := [d1, d2, d3] }
  | _ => none }
def MerkleBlocksWrongFalsely : Prop := merkleBlocksRow.holds Tryd.pinned (OpenSpec.ofChange merkleBlocksWrong)

/-- 'kinkeeplaw09.MerkleShows': WHATEVER THE INPUT: true; the input reads as it did. -/
def merkleShowsSpec : ChangeSpec := { name := "merkleShows", fn := fun _ => fun
  | [d1, d2, d3, d4] => { results := [.lit (.bool true)], args := [d1, d2, d3, d4] }
  | _ => none }
def merkleShowsRow : OpenClaim := { program := "ytgbdfpfiolbhlaadoor", sum := "1c7e03786e2b262f9a90c50292f1b3a9170919522e077f15d3ecf8f3ac2f67f7", func := "kinkeep/kinkeeplaw09.MerkleShows", spec := "merkleShows", unfollowed := true, recurses := true, named := ["kinkeep/sha256.initial", "kinkeep/sha256.constants"], apart := false, laid := [("kinkeep/sha256.initial", laid_kinkeep_sha256_initial), ("kinkeep/sha256.constants", laid_kinkeep_sha256_constants)] }
def MerkleShowsSaid : Prop := merkleShowsRow.holds Tryd.pinned (OpenSpec.ofChange merkleShowsSpec)

/-- ITS FALSE NEIGHBOUR: 'it returns false'. Refute it at one input. -/
def merkleShowsWrong : ChangeSpec := { name := "merkleShows", fn := fun _ => fun
  | [d1, d2, d3, d4] => { results := [.lit (.bool false)], args := [d1, d2, d3, d4] }
  | _ => none }
def MerkleShowsWrongFalsely : Prop := merkleShowsRow.holds Tryd.pinned (OpenSpec.ofChange merkleShowsWrong)

/-- 'kinkeeplaw09.MerkleGrows': WHATEVER THE INPUT: true; the input reads as it did. -/
def merkleGrowsSpec : ChangeSpec := { name := "merkleGrows", fn := fun _ => fun
  | [d1, d2, d3] => { results := [.lit (.bool true)], args := [d1, d2, d3] }
  | _ => none }
def merkleGrowsRow : OpenClaim := { program := "ytgbdfpfiolbhlaadoor", sum := "1c7e03786e2b262f9a90c50292f1b3a9170919522e077f15d3ecf8f3ac2f67f7", func := "kinkeep/kinkeeplaw09.MerkleGrows", spec := "merkleGrows", unfollowed := true, recurses := true, named := ["kinkeep/sha256.initial", "kinkeep/sha256.constants"], apart := false, laid := [("kinkeep/sha256.initial", laid_kinkeep_sha256_initial), ("kinkeep/sha256.constants", laid_kinkeep_sha256_constants)] }
def MerkleGrowsSaid : Prop := merkleGrowsRow.holds Tryd.pinned (OpenSpec.ofChange merkleGrowsSpec)

/-- ITS FALSE NEIGHBOUR: 'it returns false'. Refute it at one input. -/
def merkleGrowsWrong : ChangeSpec := { name := "merkleGrows", fn := fun _ => fun
  | [d1, d2, d3] => { results := [.lit (.bool false)], args := [d1, d2, d3] }
  | _ => none }
def MerkleGrowsWrongFalsely : Prop := merkleGrowsRow.holds Tryd.pinned (OpenSpec.ofChange merkleGrowsWrong)

/-- 'kinkeeplaw09.MerkleTree': WHATEVER THE INPUT: true; the input reads as it did. -/
def merkleTreeSpec : ChangeSpec := { name := "merkleTree", fn := fun _ => fun
  | [d] => { results := [.lit (.bool true)], args := [d] }
  | _ => none }
def merkleTreeRow : OpenClaim := { program := "ytgbdfpfiolbhlaadoor", sum := "1c7e03786e2b262f9a90c50292f1b3a9170919522e077f15d3ecf8f3ac2f67f7", func := "kinkeep/kinkeeplaw09.MerkleTree", spec := "merkleTree", unfollowed := true, recurses := true, named := ["kinkeep/sha256.initial", "kinkeep/sha256.constants"], apart := false, laid := [("kinkeep/sha256.initial", laid_kinkeep_sha256_initial), ("kinkeep/sha256.constants", laid_kinkeep_sha256_constants)] }
def MerkleTreeSaid : Prop := merkleTreeRow.holds Tryd.pinned (OpenSpec.ofChange merkleTreeSpec)

/-- ITS FALSE NEIGHBOUR: 'it returns false'. Refute it at one input. -/
def merkleTreeWrong : ChangeSpec := { name := "merkleTree", fn := fun _ => fun
  | [d] => { results := [.lit (.bool false)], args := [d] }
  | _ => none }
def MerkleTreeWrongFalsely : Prop := merkleTreeRow.holds Tryd.pinned (OpenSpec.ofChange merkleTreeWrong)

/- THE SECOND FORM. 'bulk': how many values and letters a reading holds, each counted each time it is reached (what is shared counts as often as it is met; a slice's spare places count too). A statement '..UptoSaid' is the law's where the arguments, and the package variables that the reading takes, are together of bulk at most 1048576: NARROWER than '..Said'. Prove '..Said' where nothing that the law and all that it calls make is longer than what came in: it says more and counts as full. Else prove '..UptoSaid'. A law counts once. -/
mutual
def uptoBulk {H : Type} : DataW H → Nat
  | .lit (.string bytes) => bytes.length + 1
  | .lit _ => 1
  | .nil => 1
  | .ptr d => uptoBulk d + 1
  | .slice elems spare => uptoBulkAll elems + uptoBulkAll spare + 1
  | .agg parts => uptoBulkAll parts + 1
  | .iface _ d => uptoBulk d + 1
  | .map entries => uptoBulkEntries entries + 1
  | .held _ => 1
def uptoBulkAll {H : Type} : List (DataW H) → Nat
  | [] => 0
  | d :: r => uptoBulk d + uptoBulkAll r
def uptoBulkEntries {H : Type} : List (Lit × DataW H) → Nat
  | [] => 0
  | x :: r => uptoBulkEntry x + uptoBulkEntries r
def uptoBulkEntry {H : Type} : Lit × DataW H → Nat
  | (.string bytes, d) => bytes.length + uptoBulk d + 1
  | (_, d) => uptoBulk d + 1
 end
def uptoSmall : (H : Type) → List (DataW H) → Bool := fun _ ds => decide (uptoBulkAll ds ≤ 1048576)
def OpenSpec.upto (s : _root_.Go.ChangeSpec) : _root_.Go.OpenSpec := { _root_.Go.OpenSpec.ofChange s with cond := some uptoSmall }

/-- 'kinkeeplaw09.MerkleSums', WHERE WHAT IT READS IS OF BULK AT MOST 1048576: true; the input reads as it did. -/
def merkleSumsUptoRow : OpenClaim := { program := "ytgbdfpfiolbhlaadoor", sum := "1c7e03786e2b262f9a90c50292f1b3a9170919522e077f15d3ecf8f3ac2f67f7", func := "kinkeep/kinkeeplaw09.MerkleSums", spec := "merkleSums", unfollowed := true, recurses := true, named := ["kinkeep/sha256.initial", "kinkeep/sha256.constants"], apart := false, laid := [("kinkeep/sha256.initial", laid_kinkeep_sha256_initial), ("kinkeep/sha256.constants", laid_kinkeep_sha256_constants)], narrowed := true }
def MerkleSumsUptoSaid : Prop := merkleSumsUptoRow.holds Tryd.pinned (OpenSpec.upto merkleSumsSpec)

/-- 'kinkeeplaw09.MerkleRoot', WHERE WHAT IT READS IS OF BULK AT MOST 1048576: true; the input reads as it did. -/
def merkleRootUptoRow : OpenClaim := { program := "ytgbdfpfiolbhlaadoor", sum := "1c7e03786e2b262f9a90c50292f1b3a9170919522e077f15d3ecf8f3ac2f67f7", func := "kinkeep/kinkeeplaw09.MerkleRoot", spec := "merkleRoot", unfollowed := true, recurses := true, named := ["kinkeep/sha256.initial", "kinkeep/sha256.constants"], apart := false, laid := [("kinkeep/sha256.initial", laid_kinkeep_sha256_initial), ("kinkeep/sha256.constants", laid_kinkeep_sha256_constants)], narrowed := true }
def MerkleRootUptoSaid : Prop := merkleRootUptoRow.holds Tryd.pinned (OpenSpec.upto merkleRootSpec)

/-- 'kinkeeplaw09.MerklePath', WHERE WHAT IT READS IS OF BULK AT MOST 1048576: true; the input reads as it did. -/
def merklePathUptoRow : OpenClaim := { program := "ytgbdfpfiolbhlaadoor", sum := "1c7e03786e2b262f9a90c50292f1b3a9170919522e077f15d3ecf8f3ac2f67f7", func := "kinkeep/kinkeeplaw09.MerklePath", spec := "merklePath", unfollowed := true, recurses := true, named := ["kinkeep/sha256.initial", "kinkeep/sha256.constants"], apart := false, laid := [("kinkeep/sha256.initial", laid_kinkeep_sha256_initial), ("kinkeep/sha256.constants", laid_kinkeep_sha256_constants)], narrowed := true }
def MerklePathUptoSaid : Prop := merklePathUptoRow.holds Tryd.pinned (OpenSpec.upto merklePathSpec)

/-- 'kinkeeplaw09.MerkleVerify', WHERE WHAT IT READS IS OF BULK AT MOST 1048576: true; the input reads as it did. -/
def merkleVerifyUptoRow : OpenClaim := { program := "ytgbdfpfiolbhlaadoor", sum := "1c7e03786e2b262f9a90c50292f1b3a9170919522e077f15d3ecf8f3ac2f67f7", func := "kinkeep/kinkeeplaw09.MerkleVerify", spec := "merkleVerify", unfollowed := true, recurses := true, named := ["kinkeep/sha256.initial", "kinkeep/sha256.constants"], apart := false, laid := [("kinkeep/sha256.initial", laid_kinkeep_sha256_initial), ("kinkeep/sha256.constants", laid_kinkeep_sha256_constants)], narrowed := true }
def MerkleVerifyUptoSaid : Prop := merkleVerifyUptoRow.holds Tryd.pinned (OpenSpec.upto merkleVerifySpec)

/-- 'kinkeeplaw09.MerkleProves', WHERE WHAT IT READS IS OF BULK AT MOST 1048576: true; the input reads as it did. -/
def merkleProvesUptoRow : OpenClaim := { program := "ytgbdfpfiolbhlaadoor", sum := "1c7e03786e2b262f9a90c50292f1b3a9170919522e077f15d3ecf8f3ac2f67f7", func := "kinkeep/kinkeeplaw09.MerkleProves", spec := "merkleProves", unfollowed := true, recurses := true, named := ["kinkeep/sha256.initial", "kinkeep/sha256.constants"], apart := false, laid := [("kinkeep/sha256.initial", laid_kinkeep_sha256_initial), ("kinkeep/sha256.constants", laid_kinkeep_sha256_constants)], narrowed := true }
def MerkleProvesUptoSaid : Prop := merkleProvesUptoRow.holds Tryd.pinned (OpenSpec.upto merkleProvesSpec)

/-- 'kinkeeplaw09.MerkleSound', WHERE WHAT IT READS IS OF BULK AT MOST 1048576: true; the input reads as it did. -/
def merkleSoundUptoRow : OpenClaim := { program := "ytgbdfpfiolbhlaadoor", sum := "1c7e03786e2b262f9a90c50292f1b3a9170919522e077f15d3ecf8f3ac2f67f7", func := "kinkeep/kinkeeplaw09.MerkleSound", spec := "merkleSound", unfollowed := true, recurses := true, named := ["kinkeep/sha256.initial", "kinkeep/sha256.constants"], apart := false, laid := [("kinkeep/sha256.initial", laid_kinkeep_sha256_initial), ("kinkeep/sha256.constants", laid_kinkeep_sha256_constants)], narrowed := true }
def MerkleSoundUptoSaid : Prop := merkleSoundUptoRow.holds Tryd.pinned (OpenSpec.upto merkleSoundSpec)

/-- 'kinkeeplaw09.MerkleConsistent', WHERE WHAT IT READS IS OF BULK AT MOST 1048576: true; the input reads as it did. -/
def merkleConsistentUptoRow : OpenClaim := { program := "ytgbdfpfiolbhlaadoor", sum := "1c7e03786e2b262f9a90c50292f1b3a9170919522e077f15d3ecf8f3ac2f67f7", func := "kinkeep/kinkeeplaw09.MerkleConsistent", spec := "merkleConsistent", unfollowed := true, recurses := true, named := ["kinkeep/sha256.initial", "kinkeep/sha256.constants"], apart := false, laid := [("kinkeep/sha256.initial", laid_kinkeep_sha256_initial), ("kinkeep/sha256.constants", laid_kinkeep_sha256_constants)], narrowed := true }
def MerkleConsistentUptoSaid : Prop := merkleConsistentUptoRow.holds Tryd.pinned (OpenSpec.upto merkleConsistentSpec)

/-- 'kinkeeplaw09.MerkleExtends', WHERE WHAT IT READS IS OF BULK AT MOST 1048576: true; the input reads as it did. -/
def merkleExtendsUptoRow : OpenClaim := { program := "ytgbdfpfiolbhlaadoor", sum := "1c7e03786e2b262f9a90c50292f1b3a9170919522e077f15d3ecf8f3ac2f67f7", func := "kinkeep/kinkeeplaw09.MerkleExtends", spec := "merkleExtends", unfollowed := true, recurses := true, named := ["kinkeep/sha256.initial", "kinkeep/sha256.constants"], apart := false, laid := [("kinkeep/sha256.initial", laid_kinkeep_sha256_initial), ("kinkeep/sha256.constants", laid_kinkeep_sha256_constants)], narrowed := true }
def MerkleExtendsUptoSaid : Prop := merkleExtendsUptoRow.holds Tryd.pinned (OpenSpec.upto merkleExtendsSpec)

/-- 'kinkeeplaw09.MerkleSee', WHERE WHAT IT READS IS OF BULK AT MOST 1048576: true; the input reads as it did. -/
def merkleSeeUptoRow : OpenClaim := { program := "ytgbdfpfiolbhlaadoor", sum := "1c7e03786e2b262f9a90c50292f1b3a9170919522e077f15d3ecf8f3ac2f67f7", func := "kinkeep/kinkeeplaw09.MerkleSee", spec := "merkleSee", unfollowed := true, recurses := true, named := ["kinkeep/sha256.initial", "kinkeep/sha256.constants"], apart := false, laid := [("kinkeep/sha256.initial", laid_kinkeep_sha256_initial), ("kinkeep/sha256.constants", laid_kinkeep_sha256_constants)], narrowed := true }
def MerkleSeeUptoSaid : Prop := merkleSeeUptoRow.holds Tryd.pinned (OpenSpec.upto merkleSeeSpec)

/-- 'kinkeeplaw09.MerkleBlocks', WHERE WHAT IT READS IS OF BULK AT MOST 1048576: true; the input reads as it did. -/
def merkleBlocksUptoRow : OpenClaim := { program := "ytgbdfpfiolbhlaadoor", sum := "1c7e03786e2b262f9a90c50292f1b3a9170919522e077f15d3ecf8f3ac2f67f7", func := "kinkeep/kinkeeplaw09.MerkleBlocks", spec := "merkleBlocks", unfollowed := true, recurses := true, named := ["kinkeep/sha256.initial", "kinkeep/sha256.constants"], apart := false, laid := [("kinkeep/sha256.initial", laid_kinkeep_sha256_initial), ("kinkeep/sha256.constants", laid_kinkeep_sha256_constants)], narrowed := true }
def MerkleBlocksUptoSaid : Prop := merkleBlocksUptoRow.holds Tryd.pinned (OpenSpec.upto merkleBlocksSpec)

/-- 'kinkeeplaw09.MerkleShows', WHERE WHAT IT READS IS OF BULK AT MOST 1048576: true; the input reads as it did. -/
def merkleShowsUptoRow : OpenClaim := { program := "ytgbdfpfiolbhlaadoor", sum := "1c7e03786e2b262f9a90c50292f1b3a9170919522e077f15d3ecf8f3ac2f67f7", func := "kinkeep/kinkeeplaw09.MerkleShows", spec := "merkleShows", unfollowed := true, recurses := true, named := ["kinkeep/sha256.initial", "kinkeep/sha256.constants"], apart := false, laid := [("kinkeep/sha256.initial", laid_kinkeep_sha256_initial), ("kinkeep/sha256.constants", laid_kinkeep_sha256_constants)], narrowed := true }
def MerkleShowsUptoSaid : Prop := merkleShowsUptoRow.holds Tryd.pinned (OpenSpec.upto merkleShowsSpec)

/-- 'kinkeeplaw09.MerkleGrows', WHERE WHAT IT READS IS OF BULK AT MOST 1048576: true; the input reads as it did. -/
def merkleGrowsUptoRow : OpenClaim := { program := "ytgbdfpfiolbhlaadoor", sum := "1c7e03786e2b262f9a90c50292f1b3a9170919522e077f15d3ecf8f3ac2f67f7", func := "kinkeep/kinkeeplaw09.MerkleGrows", spec := "merkleGrows", unfollowed := true, recurses := true, named := ["kinkeep/sha256.initial", "kinkeep/sha256.constants"], apart := false, laid := [("kinkeep/sha256.initial", laid_kinkeep_sha256_initial), ("kinkeep/sha256.constants", laid_kinkeep_sha256_constants)], narrowed := true }
def MerkleGrowsUptoSaid : Prop := merkleGrowsUptoRow.holds Tryd.pinned (OpenSpec.upto merkleGrowsSpec)

/-- 'kinkeeplaw09.MerkleTree', WHERE WHAT IT READS IS OF BULK AT MOST 1048576: true; the input reads as it did. -/
def merkleTreeUptoRow : OpenClaim := { program := "ytgbdfpfiolbhlaadoor", sum := "1c7e03786e2b262f9a90c50292f1b3a9170919522e077f15d3ecf8f3ac2f67f7", func := "kinkeep/kinkeeplaw09.MerkleTree", spec := "merkleTree", unfollowed := true, recurses := true, named := ["kinkeep/sha256.initial", "kinkeep/sha256.constants"], apart := false, laid := [("kinkeep/sha256.initial", laid_kinkeep_sha256_initial), ("kinkeep/sha256.constants", laid_kinkeep_sha256_constants)], narrowed := true }
def MerkleTreeUptoSaid : Prop := merkleTreeUptoRow.holds Tryd.pinned (OpenSpec.upto merkleTreeSpec)

end Rows
end Go.Proofs.YtgbdfpfiolbhlaaDoor
