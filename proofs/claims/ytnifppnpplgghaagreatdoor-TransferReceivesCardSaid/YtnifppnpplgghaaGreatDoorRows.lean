/-
  NARROWER THAN 'FOR EVERY INPUT', by the rows' own cells (each row's printed sentence says how): TransferReceives: laid · TransferDecodes: laid · TransferHeads: laid · TransferParts: laid · TransferWhole: laid · TransferResumes: laid · TransferOrder: laid.
  DERIVED. THE GIVEN ROWS OF THIS SEAT. 7 by the template 'for every input the law returns true; each argument reads behind the call as it read before'; 0 by the template 'total and deterministic' (their statements: YtnifppnpplgghaaGreatDoorTotals.lean).
  GIVEN WITH THE SEED: the statements are not yours to turn. If you find one false, say at which input.
  Laid BY PROGRAM, IN A SANDBOX (cutbox-rows.mjs): the forced cells as the released guide's own fill.sh prints them over the translation 3c320e76cf9d008d… (all of the seat's roots in one cut). By AI agents, Wed Nov 11 2026. No macro, syntax, notation, axiom, sorry.
-/
import Derived.Test.YtnifppnpplgghaaGreatDoorChecked
import GoSem.Claim
import GoSem.ClaimJoined
import GoSem.ClaimMapViews
import Derived.JoinedTies
import Derived.KernelRfl
namespace Go.Proofs.YtnifppnpplgghaaGreatDoor
/- THE CELL 'sum', in the pinned program and in every row, IS THE sha256 OF THE DUMP (.gsa) THAT YtnifppnpplgghaaGreatDoorProg.lean LOADS. Nothing in Lean hashes anything: it is a label: what it is worth is what the hold of that sum in a sandbox is worth. -/
noncomputable def Tryz.pinned : Pinned := { name := "ytnifppnpplgghaagreatdoor", sum := "3c320e76cf9d008da4b31055fcb73f4a2a9419629681c5299a8ee0f3f964467a", checked := Tryz.checked }
namespace Rows
def none {H : Type} : Left H := { results := [], args := [] }

/- WHAT THE LISTED PACKAGE-LEVEL VARIABLES READ AS WHEN THE CALL BEGINS. Each datum BY PROGRAM (the guide's laid-datum.mjs) off the statement by which the dump's own 'gosem.cut.vars' lays the variable. In a bare row this is a premise. The card (YtnifppnpplgghaaGreatDoorCards.lean) ties it to the program's text. -/
def laid_kinkeep_sha256_initial {H : Type} : DataW H := .agg [.lit (.int .u32 1779033703), .lit (.int .u32 3144134277), .lit (.int .u32 1013904242), .lit (.int .u32 2773480762), .lit (.int .u32 1359893119), .lit (.int .u32 2600822924), .lit (.int .u32 528734635), .lit (.int .u32 1541459225)]
def laid_kinkeep_sha256_constants {H : Type} : DataW H := .agg [.lit (.int .u32 1116352408), .lit (.int .u32 1899447441), .lit (.int .u32 3049323471), .lit (.int .u32 3921009573), .lit (.int .u32 961987163), .lit (.int .u32 1508970993), .lit (.int .u32 2453635748), .lit (.int .u32 2870763221), .lit (.int .u32 3624381080), .lit (.int .u32 310598401), .lit (.int .u32 607225278), .lit (.int .u32 1426881987), .lit (.int .u32 1925078388), .lit (.int .u32 2162078206), .lit (.int .u32 2614888103), .lit (.int .u32 3248222580), .lit (.int .u32 3835390401), .lit (.int .u32 4022224774), .lit (.int .u32 264347078), .lit (.int .u32 604807628), .lit (.int .u32 770255983), .lit (.int .u32 1249150122), .lit (.int .u32 1555081692), .lit (.int .u32 1996064986), .lit (.int .u32 2554220882), .lit (.int .u32 2821834349), .lit (.int .u32 2952996808), .lit (.int .u32 3210313671), .lit (.int .u32 3336571891), .lit (.int .u32 3584528711), .lit (.int .u32 113926993), .lit (.int .u32 338241895), .lit (.int .u32 666307205), .lit (.int .u32 773529912), .lit (.int .u32 1294757372), .lit (.int .u32 1396182291), .lit (.int .u32 1695183700), .lit (.int .u32 1986661051), .lit (.int .u32 2177026350), .lit (.int .u32 2456956037), .lit (.int .u32 2730485921), .lit (.int .u32 2820302411), .lit (.int .u32 3259730800), .lit (.int .u32 3345764771), .lit (.int .u32 3516065817), .lit (.int .u32 3600352804), .lit (.int .u32 4094571909), .lit (.int .u32 275423344), .lit (.int .u32 430227734), .lit (.int .u32 506948616), .lit (.int .u32 659060556), .lit (.int .u32 883997877), .lit (.int .u32 958139571), .lit (.int .u32 1322822218), .lit (.int .u32 1537002063), .lit (.int .u32 1747873779), .lit (.int .u32 1955562222), .lit (.int .u32 2024104815), .lit (.int .u32 2227730452), .lit (.int .u32 2361852424), .lit (.int .u32 2428436474), .lit (.int .u32 2756734187), .lit (.int .u32 3204031479), .lit (.int .u32 3329325298)]

/-- 'kinkeeplaw42.TransferReceives': WHATEVER THE INPUT: true; the input reads as it did. -/
def transferReceivesSpec : ChangeSpec := { name := "transferReceives", fn := fun _ => fun
  | [d1, d2] => { results := [.lit (.bool true)], args := [d1, d2] }
  | _ => none }
def transferReceivesRow : OpenClaim := { program := "ytnifppnpplgghaagreatdoor", sum := "3c320e76cf9d008da4b31055fcb73f4a2a9419629681c5299a8ee0f3f964467a", func := "kinkeep/kinkeeplaw42.TransferReceives", spec := "transferReceives", unfollowed := true, recurses := true, named := ["kinkeep/sha256.initial", "kinkeep/sha256.constants"], apart := false, laid := [("kinkeep/sha256.initial", laid_kinkeep_sha256_initial), ("kinkeep/sha256.constants", laid_kinkeep_sha256_constants)] }
def TransferReceivesSaid : Prop := transferReceivesRow.holds Tryz.pinned (OpenSpec.ofChange transferReceivesSpec)

/-- ITS FALSE NEIGHBOUR: 'it returns false'. Refute it at one input. -/
def transferReceivesWrong : ChangeSpec := { name := "transferReceives", fn := fun _ => fun
  | [d1, d2] => { results := [.lit (.bool false)], args := [d1, d2] }
  | _ => none }
def TransferReceivesWrongFalsely : Prop := transferReceivesRow.holds Tryz.pinned (OpenSpec.ofChange transferReceivesWrong)

/-- 'kinkeeplaw42.TransferDecodes': WHATEVER THE INPUT: true; the input reads as it did. -/
def transferDecodesSpec : ChangeSpec := { name := "transferDecodes", fn := fun _ => fun
  | [d] => { results := [.lit (.bool true)], args := [d] }
  | _ => none }
def transferDecodesRow : OpenClaim := { program := "ytnifppnpplgghaagreatdoor", sum := "3c320e76cf9d008da4b31055fcb73f4a2a9419629681c5299a8ee0f3f964467a", func := "kinkeep/kinkeeplaw42.TransferDecodes", spec := "transferDecodes", unfollowed := true, recurses := true, named := ["kinkeep/sha256.initial", "kinkeep/sha256.constants"], apart := false, laid := [("kinkeep/sha256.initial", laid_kinkeep_sha256_initial), ("kinkeep/sha256.constants", laid_kinkeep_sha256_constants)] }
def TransferDecodesSaid : Prop := transferDecodesRow.holds Tryz.pinned (OpenSpec.ofChange transferDecodesSpec)

/-- ITS FALSE NEIGHBOUR: 'it returns false'. Refute it at one input. -/
def transferDecodesWrong : ChangeSpec := { name := "transferDecodes", fn := fun _ => fun
  | [d] => { results := [.lit (.bool false)], args := [d] }
  | _ => none }
def TransferDecodesWrongFalsely : Prop := transferDecodesRow.holds Tryz.pinned (OpenSpec.ofChange transferDecodesWrong)

/-- 'kinkeeplaw42.TransferHeads': WHATEVER THE INPUT: true; the input reads as it did. -/
def transferHeadsSpec : ChangeSpec := { name := "transferHeads", fn := fun _ => fun
  | [d] => { results := [.lit (.bool true)], args := [d] }
  | _ => none }
def transferHeadsRow : OpenClaim := { program := "ytnifppnpplgghaagreatdoor", sum := "3c320e76cf9d008da4b31055fcb73f4a2a9419629681c5299a8ee0f3f964467a", func := "kinkeep/kinkeeplaw42.TransferHeads", spec := "transferHeads", unfollowed := true, recurses := true, named := ["kinkeep/sha256.initial", "kinkeep/sha256.constants"], apart := false, laid := [("kinkeep/sha256.initial", laid_kinkeep_sha256_initial), ("kinkeep/sha256.constants", laid_kinkeep_sha256_constants)] }
def TransferHeadsSaid : Prop := transferHeadsRow.holds Tryz.pinned (OpenSpec.ofChange transferHeadsSpec)

/-- ITS FALSE NEIGHBOUR: 'it returns false'. Refute it at one input. -/
def transferHeadsWrong : ChangeSpec := { name := "transferHeads", fn := fun _ => fun
  | [d] => { results := [.lit (.bool false)], args := [d] }
  | _ => none }
def TransferHeadsWrongFalsely : Prop := transferHeadsRow.holds Tryz.pinned (OpenSpec.ofChange transferHeadsWrong)

/-- 'kinkeeplaw42.TransferParts': WHATEVER THE INPUT: true; the input reads as it did. -/
def transferPartsSpec : ChangeSpec := { name := "transferParts", fn := fun _ => fun
  | [d] => { results := [.lit (.bool true)], args := [d] }
  | _ => none }
def transferPartsRow : OpenClaim := { program := "ytnifppnpplgghaagreatdoor", sum := "3c320e76cf9d008da4b31055fcb73f4a2a9419629681c5299a8ee0f3f964467a", func := "kinkeep/kinkeeplaw42.TransferParts", spec := "transferParts", unfollowed := true, recurses := true, named := ["kinkeep/sha256.initial", "kinkeep/sha256.constants"], apart := false, laid := [("kinkeep/sha256.initial", laid_kinkeep_sha256_initial), ("kinkeep/sha256.constants", laid_kinkeep_sha256_constants)] }
def TransferPartsSaid : Prop := transferPartsRow.holds Tryz.pinned (OpenSpec.ofChange transferPartsSpec)

/-- ITS FALSE NEIGHBOUR: 'it returns false'. Refute it at one input. -/
def transferPartsWrong : ChangeSpec := { name := "transferParts", fn := fun _ => fun
  | [d] => { results := [.lit (.bool false)], args := [d] }
  | _ => none }
def TransferPartsWrongFalsely : Prop := transferPartsRow.holds Tryz.pinned (OpenSpec.ofChange transferPartsWrong)

/-- 'kinkeeplaw42.TransferWhole': WHATEVER THE INPUT: true; the input reads as it did. -/
def transferWholeSpec : ChangeSpec := { name := "transferWhole", fn := fun _ => fun
  | [d1, d2, d3, d4, d5] => { results := [.lit (.bool true)], args := [d1, d2, d3, d4, d5] }
  | _ => none }
def transferWholeRow : OpenClaim := { program := "ytnifppnpplgghaagreatdoor", sum := "3c320e76cf9d008da4b31055fcb73f4a2a9419629681c5299a8ee0f3f964467a", func := "kinkeep/kinkeeplaw42.TransferWhole", spec := "transferWhole", unfollowed := true, recurses := true, named := ["kinkeep/sha256.initial", "kinkeep/sha256.constants"], apart := false, laid := [("kinkeep/sha256.initial", laid_kinkeep_sha256_initial), ("kinkeep/sha256.constants", laid_kinkeep_sha256_constants)] }
def TransferWholeSaid : Prop := transferWholeRow.holds Tryz.pinned (OpenSpec.ofChange transferWholeSpec)

/-- ITS FALSE NEIGHBOUR: 'it returns false'. Refute it at one input. -/
def transferWholeWrong : ChangeSpec := { name := "transferWhole", fn := fun _ => fun
  | [d1, d2, d3, d4, d5] => { results := [.lit (.bool false)], args := [d1, d2, d3, d4, d5] }
  | _ => none }
def TransferWholeWrongFalsely : Prop := transferWholeRow.holds Tryz.pinned (OpenSpec.ofChange transferWholeWrong)

/-- 'kinkeeplaw42.TransferResumes': WHATEVER THE INPUT: true; the input reads as it did. -/
def transferResumesSpec : ChangeSpec := { name := "transferResumes", fn := fun _ => fun
  | [d] => { results := [.lit (.bool true)], args := [d] }
  | _ => none }
def transferResumesRow : OpenClaim := { program := "ytnifppnpplgghaagreatdoor", sum := "3c320e76cf9d008da4b31055fcb73f4a2a9419629681c5299a8ee0f3f964467a", func := "kinkeep/kinkeeplaw42.TransferResumes", spec := "transferResumes", unfollowed := true, recurses := true, named := ["kinkeep/sha256.initial", "kinkeep/sha256.constants"], apart := false, laid := [("kinkeep/sha256.initial", laid_kinkeep_sha256_initial), ("kinkeep/sha256.constants", laid_kinkeep_sha256_constants)] }
def TransferResumesSaid : Prop := transferResumesRow.holds Tryz.pinned (OpenSpec.ofChange transferResumesSpec)

/-- ITS FALSE NEIGHBOUR: 'it returns false'. Refute it at one input. -/
def transferResumesWrong : ChangeSpec := { name := "transferResumes", fn := fun _ => fun
  | [d] => { results := [.lit (.bool false)], args := [d] }
  | _ => none }
def TransferResumesWrongFalsely : Prop := transferResumesRow.holds Tryz.pinned (OpenSpec.ofChange transferResumesWrong)

/-- 'kinkeeplaw42.TransferOrder': WHATEVER THE INPUT: true; the input reads as it did. -/
def transferOrderSpec : ChangeSpec := { name := "transferOrder", fn := fun _ => fun
  | [d1, d2, d3, d4] => { results := [.lit (.bool true)], args := [d1, d2, d3, d4] }
  | _ => none }
def transferOrderRow : OpenClaim := { program := "ytnifppnpplgghaagreatdoor", sum := "3c320e76cf9d008da4b31055fcb73f4a2a9419629681c5299a8ee0f3f964467a", func := "kinkeep/kinkeeplaw42.TransferOrder", spec := "transferOrder", unfollowed := true, recurses := true, named := ["kinkeep/sha256.initial", "kinkeep/sha256.constants"], apart := false, laid := [("kinkeep/sha256.initial", laid_kinkeep_sha256_initial), ("kinkeep/sha256.constants", laid_kinkeep_sha256_constants)] }
def TransferOrderSaid : Prop := transferOrderRow.holds Tryz.pinned (OpenSpec.ofChange transferOrderSpec)

/-- ITS FALSE NEIGHBOUR: 'it returns false'. Refute it at one input. -/
def transferOrderWrong : ChangeSpec := { name := "transferOrder", fn := fun _ => fun
  | [d1, d2, d3, d4] => { results := [.lit (.bool false)], args := [d1, d2, d3, d4] }
  | _ => none }
def TransferOrderWrongFalsely : Prop := transferOrderRow.holds Tryz.pinned (OpenSpec.ofChange transferOrderWrong)

/- THE SECOND FORM. 'bulk': how many values and letters a reading holds, each counted each time it is reached (what is shared counts as often as it is met; a slice's spare places count too). A statement '..UptoSaid' is the law's where the arguments, and the package variables that the reading takes, are together of bulk at most 1048576: NARROWER than '..Said'. Prove '..Said' where nothing that the law and all that it calls make is longer than what came in: it says more and counts as full. Else prove '..UptoSaid'. A law counts once. -/
mutual
def uptoBulk {H : Type} : DataW H → Nat
  | .lit (.string bytes) => bytes.length + 1
  | .lit _ => 1
  | .nil => 1
  | .ptr d => uptoBulk d + 1
  | .slice elems spare => uptoBulkAll elems + uptoBulkAll spare + 1
  | .agg parts => uptoBulkAll parts + 1
  | .iface _ d => uptoBulk d + 1
  | .map entries => uptoBulkEntries entries + 1
  | .held _ => 1
def uptoBulkAll {H : Type} : List (DataW H) → Nat
  | [] => 0
  | d :: r => uptoBulk d + uptoBulkAll r
def uptoBulkEntries {H : Type} : List (Lit × DataW H) → Nat
  | [] => 0
  | x :: r => uptoBulkEntry x + uptoBulkEntries r
def uptoBulkEntry {H : Type} : Lit × DataW H → Nat
  | (.string bytes, d) => bytes.length + uptoBulk d + 1
  | (_, d) => uptoBulk d + 1
 end
def uptoSmall : (H : Type) → List (DataW H) → Bool := fun _ ds => decide (uptoBulkAll ds ≤ 1048576)
def OpenSpec.upto (s : _root_.Go.ChangeSpec) : _root_.Go.OpenSpec := { _root_.Go.OpenSpec.ofChange s with cond := some uptoSmall }

/-- 'kinkeeplaw42.TransferReceives', WHERE WHAT IT READS IS OF BULK AT MOST 1048576: true; the input reads as it did. -/
def transferReceivesUptoRow : OpenClaim := { program := "ytnifppnpplgghaagreatdoor", sum := "3c320e76cf9d008da4b31055fcb73f4a2a9419629681c5299a8ee0f3f964467a", func := "kinkeep/kinkeeplaw42.TransferReceives", spec := "transferReceives", unfollowed := true, recurses := true, named := ["kinkeep/sha256.initial", "kinkeep/sha256.constants"], apart := false, laid := [("kinkeep/sha256.initial", laid_kinkeep_sha256_initial), ("kinkeep/sha256.constants", laid_kinkeep_sha256_constants)], narrowed := true }
def TransferReceivesUptoSaid : Prop := transferReceivesUptoRow.holds Tryz.pinned (OpenSpec.upto transferReceivesSpec)

/-- 'kinkeeplaw42.TransferDecodes', WHERE WHAT IT READS IS OF BULK AT MOST 1048576: true; the input reads as it did. -/
def transferDecodesUptoRow : OpenClaim := { program := "ytnifppnpplgghaagreatdoor", sum := "3c320e76cf9d008da4b31055fcb73f4a2a9419629681c5299a8ee0f3f964467a", func := "kinkeep/kinkeeplaw42.TransferDecodes", spec := "transferDecodes", unfollowed := true, recurses := true, named := ["kinkeep/sha256.initial", "kinkeep/sha256.constants"], apart := false, laid := [("kinkeep/sha256.initial", laid_kinkeep_sha256_initial), ("kinkeep/sha256.constants", laid_kinkeep_sha256_constants)], narrowed := true }
def TransferDecodesUptoSaid : Prop := transferDecodesUptoRow.holds Tryz.pinned (OpenSpec.upto transferDecodesSpec)

/-- 'kinkeeplaw42.TransferHeads', WHERE WHAT IT READS IS OF BULK AT MOST 1048576: true; the input reads as it did. -/
def transferHeadsUptoRow : OpenClaim := { program := "ytnifppnpplgghaagreatdoor", sum := "3c320e76cf9d008da4b31055fcb73f4a2a9419629681c5299a8ee0f3f964467a", func := "kinkeep/kinkeeplaw42.TransferHeads", spec := "transferHeads", unfollowed := true, recurses := true, named := ["kinkeep/sha256.initial", "kinkeep/sha256.constants"], apart := false, laid := [("kinkeep/sha256.initial", laid_kinkeep_sha256_initial), ("kinkeep/sha256.constants", laid_kinkeep_sha256_constants)], narrowed := true }
def TransferHeadsUptoSaid : Prop := transferHeadsUptoRow.holds Tryz.pinned (OpenSpec.upto transferHeadsSpec)

/-- 'kinkeeplaw42.TransferParts', WHERE WHAT IT READS IS OF BULK AT MOST 1048576: true; the input reads as it did. -/
def transferPartsUptoRow : OpenClaim := { program := "ytnifppnpplgghaagreatdoor", sum := "3c320e76cf9d008da4b31055fcb73f4a2a9419629681c5299a8ee0f3f964467a", func := "kinkeep/kinkeeplaw42.TransferParts", spec := "transferParts", unfollowed := true, recurses := true, named := ["kinkeep/sha256.initial", "kinkeep/sha256.constants"], apart := false, laid := [("kinkeep/sha256.initial", laid_kinkeep_sha256_initial), ("kinkeep/sha256.constants", laid_kinkeep_sha256_constants)], narrowed := true }
def TransferPartsUptoSaid : Prop := transferPartsUptoRow.holds Tryz.pinned (OpenSpec.upto transferPartsSpec)

/-- 'kinkeeplaw42.TransferWhole', WHERE WHAT IT READS IS OF BULK AT MOST 1048576: true; the input reads as it did. -/
def transferWholeUptoRow : OpenClaim := { program := "ytnifppnpplgghaagreatdoor", sum := "3c320e76cf9d008da4b31055fcb73f4a2a9419629681c5299a8ee0f3f964467a", func := "kinkeep/kinkeeplaw42.TransferWhole", spec := "transferWhole", unfollowed := true, recurses := true, named := ["kinkeep/sha256.initial", "kinkeep/sha256.constants"], apart := false, laid := [("kinkeep/sha256.initial", laid_kinkeep_sha256_initial), ("kinkeep/sha256.constants", laid_kinkeep_sha256_constants)], narrowed := true }
def TransferWholeUptoSaid : Prop := transferWholeUptoRow.holds Tryz.pinned (OpenSpec.upto transferWholeSpec)

/-- 'kinkeeplaw42.TransferResumes', WHERE WHAT IT READS IS OF BULK AT MOST 1048576: true; the input reads as it did. -/
def transferResumesUptoRow : OpenClaim := { program := "ytnifppnpplgghaagreatdoor", sum := "3c320e76cf9d008da4b31055fcb73f4a2a9419629681c5299a8ee0f3f964467a", func := "kinkeep/kinkeeplaw42.TransferResumes", spec := "transferResumes", unfollowed := true, recurses := true, named := ["kinkeep/sha256.initial", "kinkeep/sha256.constants"], apart := false, laid := [("kinkeep/sha256.initial", laid_kinkeep_sha256_initial), ("kinkeep/sha256.constants", laid_kinkeep_sha256_constants)], narrowed := true }
def TransferResumesUptoSaid : Prop := transferResumesUptoRow.holds Tryz.pinned (OpenSpec.upto transferResumesSpec)

/-- 'kinkeeplaw42.TransferOrder', WHERE WHAT IT READS IS OF BULK AT MOST 1048576: true; the input reads as it did. -/
def transferOrderUptoRow : OpenClaim := { program := "ytnifppnpplgghaagreatdoor", sum := "3c320e76cf9d008da4b31055fcb73f4a2a9419629681c5299a8ee0f3f964467a", func := "kinkeep/kinkeeplaw42.TransferOrder", spec := "transferOrder", unfollowed := true, recurses := true, named := ["kinkeep/sha256.initial", "kinkeep/sha256.constants"], apart := false, laid := [("kinkeep/sha256.initial", laid_kinkeep_sha256_initial), ("kinkeep/sha256.constants", laid_kinkeep_sha256_constants)], narrowed := true }
def TransferOrderUptoSaid : Prop := transferOrderUptoRow.holds Tryz.pinned (OpenSpec.upto transferOrderSpec)

end Rows
end Go.Proofs.YtnifppnpplgghaaGreatDoor
