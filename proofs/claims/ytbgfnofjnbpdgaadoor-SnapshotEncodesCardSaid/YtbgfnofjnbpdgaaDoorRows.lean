/-
  NARROWER THAN 'FOR EVERY INPUT', by the rows' own cells (each row's printed sentence says how): SnapshotNext: laid · SnapshotVerifies: laid · SnapshotBreaks: laid · SnapshotSums: laid · SnapshotPlays: laid · SnapshotLatest: laid · SnapshotMerges: laid · SnapshotJoin: laid · SnapshotEncodes: laid · SnapshotDecodes: laid.
  DERIVED. THE GIVEN ROWS OF THIS SEAT. 10 by the template 'for every input the law returns true; each argument reads behind the call as it read before'; 0 by the template 'total and deterministic' (their statements: YtbgfnofjnbpdgaaDoorTotals.lean).
  GIVEN WITH THE SEED: the statements are not yours to turn. If you find one false, say at which input.
  Laid BY PROGRAM, IN A SANDBOX (cutbox-rows.mjs): the forced cells as the released guide's own fill.sh prints them over the translation cf9f590c72c54328… (all of the seat's roots in one cut). By AI agents, Wed Nov 11 2026. No macro, syntax, notation, axiom, sorry.
-/
import Derived.Test.YtbgfnofjnbpdgaaDoorChecked
import GoSem.Claim
import GoSem.ClaimJoined
import GoSem.ClaimMapViews
import Derived.JoinedTies
import Derived.KernelRfl
namespace Go.Proofs.YtbgfnofjnbpdgaaDoor
/- THE CELL 'sum', in the pinned program and in every row, IS THE sha256 OF THE DUMP (.gsa) THAT YtbgfnofjnbpdgaaDoorProg.lean LOADS. Nothing in Lean hashes anything: it is a label: what it is worth is what the hold of that sum in a sandbox is worth. -/
noncomputable def Tryd.pinned : Pinned := { name := "ytbgfnofjnbpdgaadoor", sum := "cf9f590c72c543285ae5535f8d0a7679d8a5f7623d4a5ddc754f3d74367f0f21", checked := Tryd.checked }
namespace Rows
def none {H : Type} : Left H := { results := [], args := [] }

/- WHAT THE LISTED PACKAGE-LEVEL VARIABLES READ AS WHEN THE CALL BEGINS. Each datum BY PROGRAM (the guide's laid-datum.mjs) off the statement by which the dump's own 'gosem.cut.vars' lays the variable. In a bare row this is a premise. The card (YtbgfnofjnbpdgaaDoorCards.lean) ties it to the program's text. -/
def laid_kinkeep_sha256_initial {H : Type} : DataW H := .agg [.lit (.int .u32 1779033703), .lit (.int .u32 3144134277), .lit (.int .u32 1013904242), .lit (.int .u32 2773480762), .lit (.int .u32 1359893119), .lit (.int .u32 2600822924), .lit (.int .u32 528734635), .lit (.int .u32 1541459225)]
def laid_kinkeep_sha256_constants {H : Type} : DataW H := .agg [.lit (.int .u32 1116352408), .lit (.int .u32 1899447441), .lit (.int .u32 3049323471), .lit (.int .u32 3921009573), .lit (.int .u32 961987163), .lit (.int .u32 1508970993), .lit (.int .u32 2453635748), .lit (.int .u32 2870763221), .lit (.int .u32 3624381080), .lit (.int .u32 310598401), .lit (.int .u32 607225278), .lit (.int .u32 1426881987), .lit (.int .u32 1925078388), .lit (.int .u32 2162078206), .lit (.int .u32 2614888103), .lit (.int .u32 3248222580), .lit (.int .u32 3835390401), .lit (.int .u32 4022224774), .lit (.int .u32 264347078), .lit (.int .u32 604807628), .lit (.int .u32 770255983), .lit (.int .u32 1249150122), .lit (.int .u32 1555081692), .lit (.int .u32 1996064986), .lit (.int .u32 2554220882), .lit (.int .u32 2821834349), .lit (.int .u32 2952996808), .lit (.int .u32 3210313671), .lit (.int .u32 3336571891), .lit (.int .u32 3584528711), .lit (.int .u32 113926993), .lit (.int .u32 338241895), .lit (.int .u32 666307205), .lit (.int .u32 773529912), .lit (.int .u32 1294757372), .lit (.int .u32 1396182291), .lit (.int .u32 1695183700), .lit (.int .u32 1986661051), .lit (.int .u32 2177026350), .lit (.int .u32 2456956037), .lit (.int .u32 2730485921), .lit (.int .u32 2820302411), .lit (.int .u32 3259730800), .lit (.int .u32 3345764771), .lit (.int .u32 3516065817), .lit (.int .u32 3600352804), .lit (.int .u32 4094571909), .lit (.int .u32 275423344), .lit (.int .u32 430227734), .lit (.int .u32 506948616), .lit (.int .u32 659060556), .lit (.int .u32 883997877), .lit (.int .u32 958139571), .lit (.int .u32 1322822218), .lit (.int .u32 1537002063), .lit (.int .u32 1747873779), .lit (.int .u32 1955562222), .lit (.int .u32 2024104815), .lit (.int .u32 2227730452), .lit (.int .u32 2361852424), .lit (.int .u32 2428436474), .lit (.int .u32 2756734187), .lit (.int .u32 3204031479), .lit (.int .u32 3329325298)]

/-- 'kinkeeplaw26.SnapshotNext': WHATEVER THE INPUT: true; the input reads as it did. -/
def snapshotNextSpec : ChangeSpec := { name := "snapshotNext", fn := fun _ => fun
  | [d1, d2, d3, d4, d5, d6] => { results := [.lit (.bool true)], args := [d1, d2, d3, d4, d5, d6] }
  | _ => none }
def snapshotNextRow : OpenClaim := { program := "ytbgfnofjnbpdgaadoor", sum := "cf9f590c72c543285ae5535f8d0a7679d8a5f7623d4a5ddc754f3d74367f0f21", func := "kinkeep/kinkeeplaw26.SnapshotNext", spec := "snapshotNext", unfollowed := true, recurses := true, named := ["kinkeep/sha256.initial", "kinkeep/sha256.constants"], apart := false, laid := [("kinkeep/sha256.initial", laid_kinkeep_sha256_initial), ("kinkeep/sha256.constants", laid_kinkeep_sha256_constants)] }
def SnapshotNextSaid : Prop := snapshotNextRow.holds Tryd.pinned (OpenSpec.ofChange snapshotNextSpec)

/-- ITS FALSE NEIGHBOUR: 'it returns false'. Refute it at one input. -/
def snapshotNextWrong : ChangeSpec := { name := "snapshotNext", fn := fun _ => fun
  | [d1, d2, d3, d4, d5, d6] => { results := [.lit (.bool false)], args := [d1, d2, d3, d4, d5, d6] }
  | _ => none }
def SnapshotNextWrongFalsely : Prop := snapshotNextRow.holds Tryd.pinned (OpenSpec.ofChange snapshotNextWrong)

/-- 'kinkeeplaw26.SnapshotVerifies': WHATEVER THE INPUT: true; the input reads as it did. -/
def snapshotVerifiesSpec : ChangeSpec := { name := "snapshotVerifies", fn := fun _ => fun
  | [d] => { results := [.lit (.bool true)], args := [d] }
  | _ => none }
def snapshotVerifiesRow : OpenClaim := { program := "ytbgfnofjnbpdgaadoor", sum := "cf9f590c72c543285ae5535f8d0a7679d8a5f7623d4a5ddc754f3d74367f0f21", func := "kinkeep/kinkeeplaw26.SnapshotVerifies", spec := "snapshotVerifies", unfollowed := true, recurses := true, named := ["kinkeep/sha256.initial", "kinkeep/sha256.constants"], apart := false, laid := [("kinkeep/sha256.initial", laid_kinkeep_sha256_initial), ("kinkeep/sha256.constants", laid_kinkeep_sha256_constants)] }
def SnapshotVerifiesSaid : Prop := snapshotVerifiesRow.holds Tryd.pinned (OpenSpec.ofChange snapshotVerifiesSpec)

/-- ITS FALSE NEIGHBOUR: 'it returns false'. Refute it at one input. -/
def snapshotVerifiesWrong : ChangeSpec := { name := "snapshotVerifies", fn := fun _ => fun
  | [d] => { results := [.lit (.bool false)], args := [d] }
  | _ => none }
def SnapshotVerifiesWrongFalsely : Prop := snapshotVerifiesRow.holds Tryd.pinned (OpenSpec.ofChange snapshotVerifiesWrong)

/-- 'kinkeeplaw26.SnapshotBreaks': WHATEVER THE INPUT: true; the input reads as it did. -/
def snapshotBreaksSpec : ChangeSpec := { name := "snapshotBreaks", fn := fun _ => fun
  | [d1, d2, d3, d4] => { results := [.lit (.bool true)], args := [d1, d2, d3, d4] }
  | _ => none }
def snapshotBreaksRow : OpenClaim := { program := "ytbgfnofjnbpdgaadoor", sum := "cf9f590c72c543285ae5535f8d0a7679d8a5f7623d4a5ddc754f3d74367f0f21", func := "kinkeep/kinkeeplaw26.SnapshotBreaks", spec := "snapshotBreaks", unfollowed := true, recurses := true, named := ["kinkeep/sha256.initial", "kinkeep/sha256.constants"], apart := false, laid := [("kinkeep/sha256.initial", laid_kinkeep_sha256_initial), ("kinkeep/sha256.constants", laid_kinkeep_sha256_constants)] }
def SnapshotBreaksSaid : Prop := snapshotBreaksRow.holds Tryd.pinned (OpenSpec.ofChange snapshotBreaksSpec)

/-- ITS FALSE NEIGHBOUR: 'it returns false'. Refute it at one input. -/
def snapshotBreaksWrong : ChangeSpec := { name := "snapshotBreaks", fn := fun _ => fun
  | [d1, d2, d3, d4] => { results := [.lit (.bool false)], args := [d1, d2, d3, d4] }
  | _ => none }
def SnapshotBreaksWrongFalsely : Prop := snapshotBreaksRow.holds Tryd.pinned (OpenSpec.ofChange snapshotBreaksWrong)

/-- 'kinkeeplaw26.SnapshotSums': WHATEVER THE INPUT: true; the input reads as it did. -/
def snapshotSumsSpec : ChangeSpec := { name := "snapshotSums", fn := fun _ => fun
  | [d1, d2] => { results := [.lit (.bool true)], args := [d1, d2] }
  | _ => none }
def snapshotSumsRow : OpenClaim := { program := "ytbgfnofjnbpdgaadoor", sum := "cf9f590c72c543285ae5535f8d0a7679d8a5f7623d4a5ddc754f3d74367f0f21", func := "kinkeep/kinkeeplaw26.SnapshotSums", spec := "snapshotSums", unfollowed := true, recurses := true, named := ["kinkeep/sha256.initial", "kinkeep/sha256.constants"], apart := false, laid := [("kinkeep/sha256.initial", laid_kinkeep_sha256_initial), ("kinkeep/sha256.constants", laid_kinkeep_sha256_constants)] }
def SnapshotSumsSaid : Prop := snapshotSumsRow.holds Tryd.pinned (OpenSpec.ofChange snapshotSumsSpec)

/-- ITS FALSE NEIGHBOUR: 'it returns false'. Refute it at one input. -/
def snapshotSumsWrong : ChangeSpec := { name := "snapshotSums", fn := fun _ => fun
  | [d1, d2] => { results := [.lit (.bool false)], args := [d1, d2] }
  | _ => none }
def SnapshotSumsWrongFalsely : Prop := snapshotSumsRow.holds Tryd.pinned (OpenSpec.ofChange snapshotSumsWrong)

/-- 'kinkeeplaw26.SnapshotPlays': WHATEVER THE INPUT: true; the input reads as it did. -/
def snapshotPlaysSpec : ChangeSpec := { name := "snapshotPlays", fn := fun _ => fun
  | [d] => { results := [.lit (.bool true)], args := [d] }
  | _ => none }
def snapshotPlaysRow : OpenClaim := { program := "ytbgfnofjnbpdgaadoor", sum := "cf9f590c72c543285ae5535f8d0a7679d8a5f7623d4a5ddc754f3d74367f0f21", func := "kinkeep/kinkeeplaw26.SnapshotPlays", spec := "snapshotPlays", unfollowed := true, recurses := true, named := ["kinkeep/sha256.initial", "kinkeep/sha256.constants"], apart := false, laid := [("kinkeep/sha256.initial", laid_kinkeep_sha256_initial), ("kinkeep/sha256.constants", laid_kinkeep_sha256_constants)] }
def SnapshotPlaysSaid : Prop := snapshotPlaysRow.holds Tryd.pinned (OpenSpec.ofChange snapshotPlaysSpec)

/-- ITS FALSE NEIGHBOUR: 'it returns false'. Refute it at one input. -/
def snapshotPlaysWrong : ChangeSpec := { name := "snapshotPlays", fn := fun _ => fun
  | [d] => { results := [.lit (.bool false)], args := [d] }
  | _ => none }
def SnapshotPlaysWrongFalsely : Prop := snapshotPlaysRow.holds Tryd.pinned (OpenSpec.ofChange snapshotPlaysWrong)

/-- 'kinkeeplaw26.SnapshotLatest': WHATEVER THE INPUT: true; the input reads as it did. -/
def snapshotLatestSpec : ChangeSpec := { name := "snapshotLatest", fn := fun _ => fun
  | [d1, d2, d3] => { results := [.lit (.bool true)], args := [d1, d2, d3] }
  | _ => none }
def snapshotLatestRow : OpenClaim := { program := "ytbgfnofjnbpdgaadoor", sum := "cf9f590c72c543285ae5535f8d0a7679d8a5f7623d4a5ddc754f3d74367f0f21", func := "kinkeep/kinkeeplaw26.SnapshotLatest", spec := "snapshotLatest", unfollowed := true, recurses := true, named := ["kinkeep/sha256.initial", "kinkeep/sha256.constants"], apart := false, laid := [("kinkeep/sha256.initial", laid_kinkeep_sha256_initial), ("kinkeep/sha256.constants", laid_kinkeep_sha256_constants)] }
def SnapshotLatestSaid : Prop := snapshotLatestRow.holds Tryd.pinned (OpenSpec.ofChange snapshotLatestSpec)

/-- ITS FALSE NEIGHBOUR: 'it returns false'. Refute it at one input. -/
def snapshotLatestWrong : ChangeSpec := { name := "snapshotLatest", fn := fun _ => fun
  | [d1, d2, d3] => { results := [.lit (.bool false)], args := [d1, d2, d3] }
  | _ => none }
def SnapshotLatestWrongFalsely : Prop := snapshotLatestRow.holds Tryd.pinned (OpenSpec.ofChange snapshotLatestWrong)

/-- 'kinkeeplaw26.SnapshotMerges': WHATEVER THE INPUT: true; the input reads as it did. -/
def snapshotMergesSpec : ChangeSpec := { name := "snapshotMerges", fn := fun _ => fun
  | [d1, d2, d3] => { results := [.lit (.bool true)], args := [d1, d2, d3] }
  | _ => none }
def snapshotMergesRow : OpenClaim := { program := "ytbgfnofjnbpdgaadoor", sum := "cf9f590c72c543285ae5535f8d0a7679d8a5f7623d4a5ddc754f3d74367f0f21", func := "kinkeep/kinkeeplaw26.SnapshotMerges", spec := "snapshotMerges", unfollowed := true, recurses := true, named := ["kinkeep/sha256.initial", "kinkeep/sha256.constants"], apart := false, laid := [("kinkeep/sha256.initial", laid_kinkeep_sha256_initial), ("kinkeep/sha256.constants", laid_kinkeep_sha256_constants)] }
def SnapshotMergesSaid : Prop := snapshotMergesRow.holds Tryd.pinned (OpenSpec.ofChange snapshotMergesSpec)

/-- ITS FALSE NEIGHBOUR: 'it returns false'. Refute it at one input. -/
def snapshotMergesWrong : ChangeSpec := { name := "snapshotMerges", fn := fun _ => fun
  | [d1, d2, d3] => { results := [.lit (.bool false)], args := [d1, d2, d3] }
  | _ => none }
def SnapshotMergesWrongFalsely : Prop := snapshotMergesRow.holds Tryd.pinned (OpenSpec.ofChange snapshotMergesWrong)

/-- 'kinkeeplaw26.SnapshotJoin': WHATEVER THE INPUT: true; the input reads as it did. -/
def snapshotJoinSpec : ChangeSpec := { name := "snapshotJoin", fn := fun _ => fun
  | [d1, d2, d3, d4] => { results := [.lit (.bool true)], args := [d1, d2, d3, d4] }
  | _ => none }
def snapshotJoinRow : OpenClaim := { program := "ytbgfnofjnbpdgaadoor", sum := "cf9f590c72c543285ae5535f8d0a7679d8a5f7623d4a5ddc754f3d74367f0f21", func := "kinkeep/kinkeeplaw26.SnapshotJoin", spec := "snapshotJoin", unfollowed := true, recurses := true, named := ["kinkeep/sha256.initial", "kinkeep/sha256.constants"], apart := false, laid := [("kinkeep/sha256.initial", laid_kinkeep_sha256_initial), ("kinkeep/sha256.constants", laid_kinkeep_sha256_constants)] }
def SnapshotJoinSaid : Prop := snapshotJoinRow.holds Tryd.pinned (OpenSpec.ofChange snapshotJoinSpec)

/-- ITS FALSE NEIGHBOUR: 'it returns false'. Refute it at one input. -/
def snapshotJoinWrong : ChangeSpec := { name := "snapshotJoin", fn := fun _ => fun
  | [d1, d2, d3, d4] => { results := [.lit (.bool false)], args := [d1, d2, d3, d4] }
  | _ => none }
def SnapshotJoinWrongFalsely : Prop := snapshotJoinRow.holds Tryd.pinned (OpenSpec.ofChange snapshotJoinWrong)

/-- 'kinkeeplaw26.SnapshotEncodes': WHATEVER THE INPUT: true; the input reads as it did. -/
def snapshotEncodesSpec : ChangeSpec := { name := "snapshotEncodes", fn := fun _ => fun
  | [d] => { results := [.lit (.bool true)], args := [d] }
  | _ => none }
def snapshotEncodesRow : OpenClaim := { program := "ytbgfnofjnbpdgaadoor", sum := "cf9f590c72c543285ae5535f8d0a7679d8a5f7623d4a5ddc754f3d74367f0f21", func := "kinkeep/kinkeeplaw26.SnapshotEncodes", spec := "snapshotEncodes", unfollowed := true, recurses := true, named := ["kinkeep/sha256.initial", "kinkeep/sha256.constants"], apart := false, laid := [("kinkeep/sha256.initial", laid_kinkeep_sha256_initial), ("kinkeep/sha256.constants", laid_kinkeep_sha256_constants)] }
def SnapshotEncodesSaid : Prop := snapshotEncodesRow.holds Tryd.pinned (OpenSpec.ofChange snapshotEncodesSpec)

/-- ITS FALSE NEIGHBOUR: 'it returns false'. Refute it at one input. -/
def snapshotEncodesWrong : ChangeSpec := { name := "snapshotEncodes", fn := fun _ => fun
  | [d] => { results := [.lit (.bool false)], args := [d] }
  | _ => none }
def SnapshotEncodesWrongFalsely : Prop := snapshotEncodesRow.holds Tryd.pinned (OpenSpec.ofChange snapshotEncodesWrong)

/-- 'kinkeeplaw26.SnapshotDecodes': WHATEVER THE INPUT: true; the input reads as it did. -/
def snapshotDecodesSpec : ChangeSpec := { name := "snapshotDecodes", fn := fun _ => fun
  | [d] => { results := [.lit (.bool true)], args := [d] }
  | _ => none }
def snapshotDecodesRow : OpenClaim := { program := "ytbgfnofjnbpdgaadoor", sum := "cf9f590c72c543285ae5535f8d0a7679d8a5f7623d4a5ddc754f3d74367f0f21", func := "kinkeep/kinkeeplaw26.SnapshotDecodes", spec := "snapshotDecodes", unfollowed := true, recurses := true, named := ["kinkeep/sha256.initial", "kinkeep/sha256.constants"], apart := false, laid := [("kinkeep/sha256.initial", laid_kinkeep_sha256_initial), ("kinkeep/sha256.constants", laid_kinkeep_sha256_constants)] }
def SnapshotDecodesSaid : Prop := snapshotDecodesRow.holds Tryd.pinned (OpenSpec.ofChange snapshotDecodesSpec)

/-- ITS FALSE NEIGHBOUR: 'it returns false'. Refute it at one input. -/
def snapshotDecodesWrong : ChangeSpec := { name := "snapshotDecodes", fn := fun _ => fun
  | [d] => { results := [.lit (.bool false)], args := [d] }
  | _ => none }
def SnapshotDecodesWrongFalsely : Prop := snapshotDecodesRow.holds Tryd.pinned (OpenSpec.ofChange snapshotDecodesWrong)

/- THE SECOND FORM. 'bulk': how many values and letters a reading holds, each counted each time it is reached (what is shared counts as often as it is met; a slice's spare places count too). A statement '..UptoSaid' is the law's where the arguments, and the package variables that the reading takes, are together of bulk at most 1048576: NARROWER than '..Said'. Prove '..Said' where nothing that the law and all that it calls make is longer than what came in: it says more and counts as full. Else prove '..UptoSaid'. A law counts once. -/
mutual
def uptoBulk {H : Type} : DataW H → Nat
  | .lit (.string bytes) => bytes.length + 1
  | .lit _ => 1
  | .nil => 1
  | .ptr d => uptoBulk d + 1
  | .slice elems spare => uptoBulkAll elems + uptoBulkAll spare + 1
  | .agg parts => uptoBulkAll parts + 1
  | .iface _ d => uptoBulk d + 1
  | .map entries => uptoBulkEntries entries + 1
  | .held _ => 1
def uptoBulkAll {H : Type} : List (DataW H) → Nat
  | [] => 0
  | d :: r => uptoBulk d + uptoBulkAll r
def uptoBulkEntries {H : Type} : List (Lit × DataW H) → Nat
  | [] => 0
  | x :: r => uptoBulkEntry x + uptoBulkEntries r
def uptoBulkEntry {H : Type} : Lit × DataW H → Nat
  | (.string bytes, d) => bytes.length + uptoBulk d + 1
  | (_, d) => uptoBulk d + 1
 end
def uptoSmall : (H : Type) → List (DataW H) → Bool := fun _ ds => decide (uptoBulkAll ds ≤ 1048576)
def OpenSpec.upto (s : _root_.Go.ChangeSpec) : _root_.Go.OpenSpec := { _root_.Go.OpenSpec.ofChange s with cond := some uptoSmall }

/-- 'kinkeeplaw26.SnapshotNext', WHERE WHAT IT READS IS OF BULK AT MOST 1048576: true; the input reads as it did. -/
def snapshotNextUptoRow : OpenClaim := { program := "ytbgfnofjnbpdgaadoor", sum := "cf9f590c72c543285ae5535f8d0a7679d8a5f7623d4a5ddc754f3d74367f0f21", func := "kinkeep/kinkeeplaw26.SnapshotNext", spec := "snapshotNext", unfollowed := true, recurses := true, named := ["kinkeep/sha256.initial", "kinkeep/sha256.constants"], apart := false, laid := [("kinkeep/sha256.initial", laid_kinkeep_sha256_initial), ("kinkeep/sha256.constants", laid_kinkeep_sha256_constants)], narrowed := true }
def SnapshotNextUptoSaid : Prop := snapshotNextUptoRow.holds Tryd.pinned (OpenSpec.upto snapshotNextSpec)

/-- 'kinkeeplaw26.SnapshotVerifies', WHERE WHAT IT READS IS OF BULK AT MOST 1048576: true; the input reads as it did. -/
def snapshotVerifiesUptoRow : OpenClaim := { program := "ytbgfnofjnbpdgaadoor", sum := "cf9f590c72c543285ae5535f8d0a7679d8a5f7623d4a5ddc754f3d74367f0f21", func := "kinkeep/kinkeeplaw26.SnapshotVerifies", spec := "snapshotVerifies", unfollowed := true, recurses := true, named := ["kinkeep/sha256.initial", "kinkeep/sha256.constants"], apart := false, laid := [("kinkeep/sha256.initial", laid_kinkeep_sha256_initial), ("kinkeep/sha256.constants", laid_kinkeep_sha256_constants)], narrowed := true }
def SnapshotVerifiesUptoSaid : Prop := snapshotVerifiesUptoRow.holds Tryd.pinned (OpenSpec.upto snapshotVerifiesSpec)

/-- 'kinkeeplaw26.SnapshotBreaks', WHERE WHAT IT READS IS OF BULK AT MOST 1048576: true; the input reads as it did. -/
def snapshotBreaksUptoRow : OpenClaim := { program := "ytbgfnofjnbpdgaadoor", sum := "cf9f590c72c543285ae5535f8d0a7679d8a5f7623d4a5ddc754f3d74367f0f21", func := "kinkeep/kinkeeplaw26.SnapshotBreaks", spec := "snapshotBreaks", unfollowed := true, recurses := true, named := ["kinkeep/sha256.initial", "kinkeep/sha256.constants"], apart := false, laid := [("kinkeep/sha256.initial", laid_kinkeep_sha256_initial), ("kinkeep/sha256.constants", laid_kinkeep_sha256_constants)], narrowed := true }
def SnapshotBreaksUptoSaid : Prop := snapshotBreaksUptoRow.holds Tryd.pinned (OpenSpec.upto snapshotBreaksSpec)

/-- 'kinkeeplaw26.SnapshotSums', WHERE WHAT IT READS IS OF BULK AT MOST 1048576: true; the input reads as it did. -/
def snapshotSumsUptoRow : OpenClaim := { program := "ytbgfnofjnbpdgaadoor", sum := "cf9f590c72c543285ae5535f8d0a7679d8a5f7623d4a5ddc754f3d74367f0f21", func := "kinkeep/kinkeeplaw26.SnapshotSums", spec := "snapshotSums", unfollowed := true, recurses := true, named := ["kinkeep/sha256.initial", "kinkeep/sha256.constants"], apart := false, laid := [("kinkeep/sha256.initial", laid_kinkeep_sha256_initial), ("kinkeep/sha256.constants", laid_kinkeep_sha256_constants)], narrowed := true }
def SnapshotSumsUptoSaid : Prop := snapshotSumsUptoRow.holds Tryd.pinned (OpenSpec.upto snapshotSumsSpec)

/-- 'kinkeeplaw26.SnapshotPlays', WHERE WHAT IT READS IS OF BULK AT MOST 1048576: true; the input reads as it did. -/
def snapshotPlaysUptoRow : OpenClaim := { program := "ytbgfnofjnbpdgaadoor", sum := "cf9f590c72c543285ae5535f8d0a7679d8a5f7623d4a5ddc754f3d74367f0f21", func := "kinkeep/kinkeeplaw26.SnapshotPlays", spec := "snapshotPlays", unfollowed := true, recurses := true, named := ["kinkeep/sha256.initial", "kinkeep/sha256.constants"], apart := false, laid := [("kinkeep/sha256.initial", laid_kinkeep_sha256_initial), ("kinkeep/sha256.constants", laid_kinkeep_sha256_constants)], narrowed := true }
def SnapshotPlaysUptoSaid : Prop := snapshotPlaysUptoRow.holds Tryd.pinned (OpenSpec.upto snapshotPlaysSpec)

/-- 'kinkeeplaw26.SnapshotLatest', WHERE WHAT IT READS IS OF BULK AT MOST 1048576: true; the input reads as it did. -/
def snapshotLatestUptoRow : OpenClaim := { program := "ytbgfnofjnbpdgaadoor", sum := "cf9f590c72c543285ae5535f8d0a7679d8a5f7623d4a5ddc754f3d74367f0f21", func := "kinkeep/kinkeeplaw26.SnapshotLatest", spec := "snapshotLatest", unfollowed := true, recurses := true, named := ["kinkeep/sha256.initial", "kinkeep/sha256.constants"], apart := false, laid := [("kinkeep/sha256.initial", laid_kinkeep_sha256_initial), ("kinkeep/sha256.constants", laid_kinkeep_sha256_constants)], narrowed := true }
def SnapshotLatestUptoSaid : Prop := snapshotLatestUptoRow.holds Tryd.pinned (OpenSpec.upto snapshotLatestSpec)

/-- 'kinkeeplaw26.SnapshotMerges', WHERE WHAT IT READS IS OF BULK AT MOST 1048576: true; the input reads as it did. -/
def snapshotMergesUptoRow : OpenClaim := { program := "ytbgfnofjnbpdgaadoor", sum := "cf9f590c72c543285ae5535f8d0a7679d8a5f7623d4a5ddc754f3d74367f0f21", func := "kinkeep/kinkeeplaw26.SnapshotMerges", spec := "snapshotMerges", unfollowed := true, recurses := true, named := ["kinkeep/sha256.initial", "kinkeep/sha256.constants"], apart := false, laid := [("kinkeep/sha256.initial", laid_kinkeep_sha256_initial), ("kinkeep/sha256.constants", laid_kinkeep_sha256_constants)], narrowed := true }
def SnapshotMergesUptoSaid : Prop := snapshotMergesUptoRow.holds Tryd.pinned (OpenSpec.upto snapshotMergesSpec)

/-- 'kinkeeplaw26.SnapshotJoin', WHERE WHAT IT READS IS OF BULK AT MOST 1048576: true; the input reads as it did. -/
def snapshotJoinUptoRow : OpenClaim := { program := "ytbgfnofjnbpdgaadoor", sum := "cf9f590c72c543285ae5535f8d0a7679d8a5f7623d4a5ddc754f3d74367f0f21", func := "kinkeep/kinkeeplaw26.SnapshotJoin", spec := "snapshotJoin", unfollowed := true, recurses := true, named := ["kinkeep/sha256.initial", "kinkeep/sha256.constants"], apart := false, laid := [("kinkeep/sha256.initial", laid_kinkeep_sha256_initial), ("kinkeep/sha256.constants", laid_kinkeep_sha256_constants)], narrowed := true }
def SnapshotJoinUptoSaid : Prop := snapshotJoinUptoRow.holds Tryd.pinned (OpenSpec.upto snapshotJoinSpec)

/-- 'kinkeeplaw26.SnapshotEncodes', WHERE WHAT IT READS IS OF BULK AT MOST 1048576: true; the input reads as it did. -/
def snapshotEncodesUptoRow : OpenClaim := { program := "ytbgfnofjnbpdgaadoor", sum := "cf9f590c72c543285ae5535f8d0a7679d8a5f7623d4a5ddc754f3d74367f0f21", func := "kinkeep/kinkeeplaw26.SnapshotEncodes", spec := "snapshotEncodes", unfollowed := true, recurses := true, named := ["kinkeep/sha256.initial", "kinkeep/sha256.constants"], apart := false, laid := [("kinkeep/sha256.initial", laid_kinkeep_sha256_initial), ("kinkeep/sha256.constants", laid_kinkeep_sha256_constants)], narrowed := true }
def SnapshotEncodesUptoSaid : Prop := snapshotEncodesUptoRow.holds Tryd.pinned (OpenSpec.upto snapshotEncodesSpec)

/-- 'kinkeeplaw26.SnapshotDecodes', WHERE WHAT IT READS IS OF BULK AT MOST 1048576: true; the input reads as it did. -/
def snapshotDecodesUptoRow : OpenClaim := { program := "ytbgfnofjnbpdgaadoor", sum := "cf9f590c72c543285ae5535f8d0a7679d8a5f7623d4a5ddc754f3d74367f0f21", func := "kinkeep/kinkeeplaw26.SnapshotDecodes", spec := "snapshotDecodes", unfollowed := true, recurses := true, named := ["kinkeep/sha256.initial", "kinkeep/sha256.constants"], apart := false, laid := [("kinkeep/sha256.initial", laid_kinkeep_sha256_initial), ("kinkeep/sha256.constants", laid_kinkeep_sha256_constants)], narrowed := true }
def SnapshotDecodesUptoSaid : Prop := snapshotDecodesUptoRow.holds Tryd.pinned (OpenSpec.upto snapshotDecodesSpec)

end Rows
end Go.Proofs.YtbgfnofjnbpdgaaDoor
