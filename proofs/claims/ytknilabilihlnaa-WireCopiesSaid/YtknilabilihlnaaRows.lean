/-
  No cell of these rows narrows 'for every input' (looked for: loops, veiled, ifaces, maps, wideKeys, modest, calm, conditions, laid).
  DERIVED. THE GIVEN ROWS OF THIS SEAT. 10 by the template 'for every input the law returns true; each argument reads behind the call as it read before'; 0 by the template 'total and deterministic' (their statements: YtknilabilihlnaaTotals.lean).
  GIVEN WITH THE SEED: the statements are not yours to turn. If you find one false, say at which input.
  Laid BY PROGRAM, IN A SANDBOX (cutbox-rows.mjs): the forced cells as the released guide's own fill.sh prints them over the translation fab73559a37ffbfb… (all of the seat's roots in one cut). By AI agents, Wed Nov 11 2026. No macro, syntax, notation, axiom, sorry.
-/
import Derived.Test.YtknilabilihlnaaChecked
import GoSem.Claim
import GoSem.ClaimJoined
import GoSem.ClaimMapViews
import Derived.JoinedTies
import Derived.KernelRfl
namespace Go.Proofs.Ytknilabilihlnaa
/- THE CELL 'sum', in the pinned program and in every row, IS THE sha256 OF THE DUMP (.gsa) THAT YtknilabilihlnaaProg.lean LOADS. Nothing in Lean hashes anything: it is a label: what it is worth is what the hold of that sum in a sandbox is worth. -/
noncomputable def Try.pinned : Pinned := { name := "ytknilabilihlnaa", sum := "fab73559a37ffbfbd57b5ab3c1bac044c20d176c442d927b5ec442dc3190fe48", checked := Try.checked }
namespace Rows
def none {H : Type} : Left H := { results := [], args := [] }

/-- 'kinkeeplaw01.WireNumbers': WHATEVER THE INPUT: true; the input reads as it did. -/
def wireNumbersSpec : ChangeSpec := { name := "wireNumbers", fn := fun _ => fun
  | [d1, d2, d3] => { results := [.lit (.bool true)], args := [d1, d2, d3] }
  | _ => none }
def wireNumbersRow : OpenClaim := { program := "ytknilabilihlnaa", sum := "fab73559a37ffbfbd57b5ab3c1bac044c20d176c442d927b5ec442dc3190fe48", func := "kinkeep/kinkeeplaw01.WireNumbers", spec := "wireNumbers", unfollowed := true, recurses := true, apart := false }
def WireNumbersSaid : Prop := wireNumbersRow.holds Try.pinned (OpenSpec.ofChange wireNumbersSpec)

/-- ITS FALSE NEIGHBOUR: 'it returns false'. Refute it at one input. -/
def wireNumbersWrong : ChangeSpec := { name := "wireNumbers", fn := fun _ => fun
  | [d1, d2, d3] => { results := [.lit (.bool false)], args := [d1, d2, d3] }
  | _ => none }
def WireNumbersWrongFalsely : Prop := wireNumbersRow.holds Try.pinned (OpenSpec.ofChange wireNumbersWrong)

/-- 'kinkeeplaw01.WireInverse': WHATEVER THE INPUT: true; the input reads as it did. -/
def wireInverseSpec : ChangeSpec := { name := "wireInverse", fn := fun _ => fun
  | [d1, d2] => { results := [.lit (.bool true)], args := [d1, d2] }
  | _ => none }
def wireInverseRow : OpenClaim := { program := "ytknilabilihlnaa", sum := "fab73559a37ffbfbd57b5ab3c1bac044c20d176c442d927b5ec442dc3190fe48", func := "kinkeep/kinkeeplaw01.WireInverse", spec := "wireInverse", unfollowed := true, recurses := true, apart := false }
def WireInverseSaid : Prop := wireInverseRow.holds Try.pinned (OpenSpec.ofChange wireInverseSpec)

/-- ITS FALSE NEIGHBOUR: 'it returns false'. Refute it at one input. -/
def wireInverseWrong : ChangeSpec := { name := "wireInverse", fn := fun _ => fun
  | [d1, d2] => { results := [.lit (.bool false)], args := [d1, d2] }
  | _ => none }
def WireInverseWrongFalsely : Prop := wireInverseRow.holds Try.pinned (OpenSpec.ofChange wireInverseWrong)

/-- 'kinkeeplaw01.WireLimit': WHATEVER THE INPUT: true; the input reads as it did. -/
def wireLimitSpec : ChangeSpec := { name := "wireLimit", fn := fun _ => fun
  | [d1, d2] => { results := [.lit (.bool true)], args := [d1, d2] }
  | _ => none }
def wireLimitRow : OpenClaim := { program := "ytknilabilihlnaa", sum := "fab73559a37ffbfbd57b5ab3c1bac044c20d176c442d927b5ec442dc3190fe48", func := "kinkeep/kinkeeplaw01.WireLimit", spec := "wireLimit", unfollowed := true, recurses := true, apart := false }
def WireLimitSaid : Prop := wireLimitRow.holds Try.pinned (OpenSpec.ofChange wireLimitSpec)

/-- ITS FALSE NEIGHBOUR: 'it returns false'. Refute it at one input. -/
def wireLimitWrong : ChangeSpec := { name := "wireLimit", fn := fun _ => fun
  | [d1, d2] => { results := [.lit (.bool false)], args := [d1, d2] }
  | _ => none }
def WireLimitWrongFalsely : Prop := wireLimitRow.holds Try.pinned (OpenSpec.ofChange wireLimitWrong)

/-- 'kinkeeplaw01.WireEncodes': WHATEVER THE INPUT: true; the input reads as it did. -/
def wireEncodesSpec : ChangeSpec := { name := "wireEncodes", fn := fun _ => fun
  | [d] => { results := [.lit (.bool true)], args := [d] }
  | _ => none }
def wireEncodesRow : OpenClaim := { program := "ytknilabilihlnaa", sum := "fab73559a37ffbfbd57b5ab3c1bac044c20d176c442d927b5ec442dc3190fe48", func := "kinkeep/kinkeeplaw01.WireEncodes", spec := "wireEncodes", unfollowed := true, recurses := true, apart := false }
def WireEncodesSaid : Prop := wireEncodesRow.holds Try.pinned (OpenSpec.ofChange wireEncodesSpec)

/-- ITS FALSE NEIGHBOUR: 'it returns false'. Refute it at one input. -/
def wireEncodesWrong : ChangeSpec := { name := "wireEncodes", fn := fun _ => fun
  | [d] => { results := [.lit (.bool false)], args := [d] }
  | _ => none }
def WireEncodesWrongFalsely : Prop := wireEncodesRow.holds Try.pinned (OpenSpec.ofChange wireEncodesWrong)

/-- 'kinkeeplaw01.WireDistinct': WHATEVER THE INPUT: true; the input reads as it did. -/
def wireDistinctSpec : ChangeSpec := { name := "wireDistinct", fn := fun _ => fun
  | [d1, d2] => { results := [.lit (.bool true)], args := [d1, d2] }
  | _ => none }
def wireDistinctRow : OpenClaim := { program := "ytknilabilihlnaa", sum := "fab73559a37ffbfbd57b5ab3c1bac044c20d176c442d927b5ec442dc3190fe48", func := "kinkeep/kinkeeplaw01.WireDistinct", spec := "wireDistinct", unfollowed := true, recurses := true, apart := false }
def WireDistinctSaid : Prop := wireDistinctRow.holds Try.pinned (OpenSpec.ofChange wireDistinctSpec)

/-- ITS FALSE NEIGHBOUR: 'it returns false'. Refute it at one input. -/
def wireDistinctWrong : ChangeSpec := { name := "wireDistinct", fn := fun _ => fun
  | [d1, d2] => { results := [.lit (.bool false)], args := [d1, d2] }
  | _ => none }
def WireDistinctWrongFalsely : Prop := wireDistinctRow.holds Try.pinned (OpenSpec.ofChange wireDistinctWrong)

/-- 'kinkeeplaw01.WireCopies': WHATEVER THE INPUT: true; the input reads as it did. -/
def wireCopiesSpec : ChangeSpec := { name := "wireCopies", fn := fun _ => fun
  | [d] => { results := [.lit (.bool true)], args := [d] }
  | _ => none }
def wireCopiesRow : OpenClaim := { program := "ytknilabilihlnaa", sum := "fab73559a37ffbfbd57b5ab3c1bac044c20d176c442d927b5ec442dc3190fe48", func := "kinkeep/kinkeeplaw01.WireCopies", spec := "wireCopies", unfollowed := true, recurses := true, apart := false }
def WireCopiesSaid : Prop := wireCopiesRow.holds Try.pinned (OpenSpec.ofChange wireCopiesSpec)

/-- ITS FALSE NEIGHBOUR: 'it returns false'. Refute it at one input. -/
def wireCopiesWrong : ChangeSpec := { name := "wireCopies", fn := fun _ => fun
  | [d] => { results := [.lit (.bool false)], args := [d] }
  | _ => none }
def WireCopiesWrongFalsely : Prop := wireCopiesRow.holds Try.pinned (OpenSpec.ofChange wireCopiesWrong)

/-- 'kinkeeplaw01.WireReads': WHATEVER THE INPUT: true; the input reads as it did. -/
def wireReadsSpec : ChangeSpec := { name := "wireReads", fn := fun _ => fun
  | [d1, d2] => { results := [.lit (.bool true)], args := [d1, d2] }
  | _ => none }
def wireReadsRow : OpenClaim := { program := "ytknilabilihlnaa", sum := "fab73559a37ffbfbd57b5ab3c1bac044c20d176c442d927b5ec442dc3190fe48", func := "kinkeep/kinkeeplaw01.WireReads", spec := "wireReads", unfollowed := true, recurses := true, apart := false }
def WireReadsSaid : Prop := wireReadsRow.holds Try.pinned (OpenSpec.ofChange wireReadsSpec)

/-- ITS FALSE NEIGHBOUR: 'it returns false'. Refute it at one input. -/
def wireReadsWrong : ChangeSpec := { name := "wireReads", fn := fun _ => fun
  | [d1, d2] => { results := [.lit (.bool false)], args := [d1, d2] }
  | _ => none }
def WireReadsWrongFalsely : Prop := wireReadsRow.holds Try.pinned (OpenSpec.ofChange wireReadsWrong)

/-- 'kinkeeplaw01.WireSticks': WHATEVER THE INPUT: true; the input reads as it did. -/
def wireSticksSpec : ChangeSpec := { name := "wireSticks", fn := fun _ => fun
  | [d1, d2, d3] => { results := [.lit (.bool true)], args := [d1, d2, d3] }
  | _ => none }
def wireSticksRow : OpenClaim := { program := "ytknilabilihlnaa", sum := "fab73559a37ffbfbd57b5ab3c1bac044c20d176c442d927b5ec442dc3190fe48", func := "kinkeep/kinkeeplaw01.WireSticks", spec := "wireSticks", unfollowed := true, recurses := true, apart := false }
def WireSticksSaid : Prop := wireSticksRow.holds Try.pinned (OpenSpec.ofChange wireSticksSpec)

/-- ITS FALSE NEIGHBOUR: 'it returns false'. Refute it at one input. -/
def wireSticksWrong : ChangeSpec := { name := "wireSticks", fn := fun _ => fun
  | [d1, d2, d3] => { results := [.lit (.bool false)], args := [d1, d2, d3] }
  | _ => none }
def WireSticksWrongFalsely : Prop := wireSticksRow.holds Try.pinned (OpenSpec.ofChange wireSticksWrong)

/-- 'kinkeeplaw01.WireReturns': WHATEVER THE INPUT: true; the input reads as it did. -/
def wireReturnsSpec : ChangeSpec := { name := "wireReturns", fn := fun _ => fun
  | [d] => { results := [.lit (.bool true)], args := [d] }
  | _ => none }
def wireReturnsRow : OpenClaim := { program := "ytknilabilihlnaa", sum := "fab73559a37ffbfbd57b5ab3c1bac044c20d176c442d927b5ec442dc3190fe48", func := "kinkeep/kinkeeplaw01.WireReturns", spec := "wireReturns", unfollowed := true, recurses := true, apart := false }
def WireReturnsSaid : Prop := wireReturnsRow.holds Try.pinned (OpenSpec.ofChange wireReturnsSpec)

/-- ITS FALSE NEIGHBOUR: 'it returns false'. Refute it at one input. -/
def wireReturnsWrong : ChangeSpec := { name := "wireReturns", fn := fun _ => fun
  | [d] => { results := [.lit (.bool false)], args := [d] }
  | _ => none }
def WireReturnsWrongFalsely : Prop := wireReturnsRow.holds Try.pinned (OpenSpec.ofChange wireReturnsWrong)

/-- 'kinkeeplaw01.WireCanonical': WHATEVER THE INPUT: true; the input reads as it did. -/
def wireCanonicalSpec : ChangeSpec := { name := "wireCanonical", fn := fun _ => fun
  | [d1, d2] => { results := [.lit (.bool true)], args := [d1, d2] }
  | _ => none }
def wireCanonicalRow : OpenClaim := { program := "ytknilabilihlnaa", sum := "fab73559a37ffbfbd57b5ab3c1bac044c20d176c442d927b5ec442dc3190fe48", func := "kinkeep/kinkeeplaw01.WireCanonical", spec := "wireCanonical", unfollowed := true, recurses := true, apart := false }
def WireCanonicalSaid : Prop := wireCanonicalRow.holds Try.pinned (OpenSpec.ofChange wireCanonicalSpec)

/-- ITS FALSE NEIGHBOUR: 'it returns false'. Refute it at one input. -/
def wireCanonicalWrong : ChangeSpec := { name := "wireCanonical", fn := fun _ => fun
  | [d1, d2] => { results := [.lit (.bool false)], args := [d1, d2] }
  | _ => none }
def WireCanonicalWrongFalsely : Prop := wireCanonicalRow.holds Try.pinned (OpenSpec.ofChange wireCanonicalWrong)

/- THE SECOND FORM. 'bulk': how many values and letters a reading holds, each counted each time it is reached (what is shared counts as often as it is met; a slice's spare places count too). A statement '..UptoSaid' is the law's where the arguments, and the package variables that the reading takes, are together of bulk at most 1048576: NARROWER than '..Said'. Prove '..Said' where nothing that the law and all that it calls make is longer than what came in: it says more and counts as full. Else prove '..UptoSaid'. A law counts once. -/
mutual
def uptoBulk {H : Type} : DataW H → Nat
  | .lit (.string bytes) => bytes.length + 1
  | .lit _ => 1
  | .nil => 1
  | .ptr d => uptoBulk d + 1
  | .slice elems spare => uptoBulkAll elems + uptoBulkAll spare + 1
  | .agg parts => uptoBulkAll parts + 1
  | .iface _ d => uptoBulk d + 1
  | .map entries => uptoBulkEntries entries + 1
  | .held _ => 1
def uptoBulkAll {H : Type} : List (DataW H) → Nat
  | [] => 0
  | d :: r => uptoBulk d + uptoBulkAll r
def uptoBulkEntries {H : Type} : List (Lit × DataW H) → Nat
  | [] => 0
  | x :: r => uptoBulkEntry x + uptoBulkEntries r
def uptoBulkEntry {H : Type} : Lit × DataW H → Nat
  | (.string bytes, d) => bytes.length + uptoBulk d + 1
  | (_, d) => uptoBulk d + 1
 end
def uptoSmall : (H : Type) → List (DataW H) → Bool := fun _ ds => decide (uptoBulkAll ds ≤ 1048576)
def OpenSpec.upto (s : _root_.Go.ChangeSpec) : _root_.Go.OpenSpec := { _root_.Go.OpenSpec.ofChange s with cond := some uptoSmall }

/-- 'kinkeeplaw01.WireNumbers', WHERE WHAT IT READS IS OF BULK AT MOST 1048576: true; the input reads as it did. -/
def wireNumbersUptoRow : OpenClaim := { program := "ytknilabilihlnaa", sum := "fab73559a37ffbfbd57b5ab3c1bac044c20d176c442d927b5ec442dc3190fe48", func := "kinkeep/kinkeeplaw01.WireNumbers", spec := "wireNumbers", unfollowed := true, recurses := true, apart := false, narrowed := true }
def WireNumbersUptoSaid : Prop := wireNumbersUptoRow.holds Try.pinned (OpenSpec.upto wireNumbersSpec)

/-- 'kinkeeplaw01.WireInverse', WHERE WHAT IT READS IS OF BULK AT MOST 1048576: true; the input reads as it did. -/
def wireInverseUptoRow : OpenClaim := { program := "ytknilabilihlnaa", sum := "fab73559a37ffbfbd57b5ab3c1bac044c20d176c442d927b5ec442dc3190fe48", func := "kinkeep/kinkeeplaw01.WireInverse", spec := "wireInverse", unfollowed := true, recurses := true, apart := false, narrowed := true }
def WireInverseUptoSaid : Prop := wireInverseUptoRow.holds Try.pinned (OpenSpec.upto wireInverseSpec)

/-- 'kinkeeplaw01.WireLimit', WHERE WHAT IT READS IS OF BULK AT MOST 1048576: true; the input reads as it did. -/
def wireLimitUptoRow : OpenClaim := { program := "ytknilabilihlnaa", sum := "fab73559a37ffbfbd57b5ab3c1bac044c20d176c442d927b5ec442dc3190fe48", func := "kinkeep/kinkeeplaw01.WireLimit", spec := "wireLimit", unfollowed := true, recurses := true, apart := false, narrowed := true }
def WireLimitUptoSaid : Prop := wireLimitUptoRow.holds Try.pinned (OpenSpec.upto wireLimitSpec)

/-- 'kinkeeplaw01.WireEncodes', WHERE WHAT IT READS IS OF BULK AT MOST 1048576: true; the input reads as it did. -/
def wireEncodesUptoRow : OpenClaim := { program := "ytknilabilihlnaa", sum := "fab73559a37ffbfbd57b5ab3c1bac044c20d176c442d927b5ec442dc3190fe48", func := "kinkeep/kinkeeplaw01.WireEncodes", spec := "wireEncodes", unfollowed := true, recurses := true, apart := false, narrowed := true }
def WireEncodesUptoSaid : Prop := wireEncodesUptoRow.holds Try.pinned (OpenSpec.upto wireEncodesSpec)

/-- 'kinkeeplaw01.WireDistinct', WHERE WHAT IT READS IS OF BULK AT MOST 1048576: true; the input reads as it did. -/
def wireDistinctUptoRow : OpenClaim := { program := "ytknilabilihlnaa", sum := "fab73559a37ffbfbd57b5ab3c1bac044c20d176c442d927b5ec442dc3190fe48", func := "kinkeep/kinkeeplaw01.WireDistinct", spec := "wireDistinct", unfollowed := true, recurses := true, apart := false, narrowed := true }
def WireDistinctUptoSaid : Prop := wireDistinctUptoRow.holds Try.pinned (OpenSpec.upto wireDistinctSpec)

/-- 'kinkeeplaw01.WireCopies', WHERE WHAT IT READS IS OF BULK AT MOST 1048576: true; the input reads as it did. -/
def wireCopiesUptoRow : OpenClaim := { program := "ytknilabilihlnaa", sum := "fab73559a37ffbfbd57b5ab3c1bac044c20d176c442d927b5ec442dc3190fe48", func := "kinkeep/kinkeeplaw01.WireCopies", spec := "wireCopies", unfollowed := true, recurses := true, apart := false, narrowed := true }
def WireCopiesUptoSaid : Prop := wireCopiesUptoRow.holds Try.pinned (OpenSpec.upto wireCopiesSpec)

/-- 'kinkeeplaw01.WireReads', WHERE WHAT IT READS IS OF BULK AT MOST 1048576: true; the input reads as it did. -/
def wireReadsUptoRow : OpenClaim := { program := "ytknilabilihlnaa", sum := "fab73559a37ffbfbd57b5ab3c1bac044c20d176c442d927b5ec442dc3190fe48", func := "kinkeep/kinkeeplaw01.WireReads", spec := "wireReads", unfollowed := true, recurses := true, apart := false, narrowed := true }
def WireReadsUptoSaid : Prop := wireReadsUptoRow.holds Try.pinned (OpenSpec.upto wireReadsSpec)

/-- 'kinkeeplaw01.WireSticks', WHERE WHAT IT READS IS OF BULK AT MOST 1048576: true; the input reads as it did. -/
def wireSticksUptoRow : OpenClaim := { program := "ytknilabilihlnaa", sum := "fab73559a37ffbfbd57b5ab3c1bac044c20d176c442d927b5ec442dc3190fe48", func := "kinkeep/kinkeeplaw01.WireSticks", spec := "wireSticks", unfollowed := true, recurses := true, apart := false, narrowed := true }
def WireSticksUptoSaid : Prop := wireSticksUptoRow.holds Try.pinned (OpenSpec.upto wireSticksSpec)

/-- 'kinkeeplaw01.WireReturns', WHERE WHAT IT READS IS OF BULK AT MOST 1048576: true; the input reads as it did. -/
def wireReturnsUptoRow : OpenClaim := { program := "ytknilabilihlnaa", sum := "fab73559a37ffbfbd57b5ab3c1bac044c20d176c442d927b5ec442dc3190fe48", func := "kinkeep/kinkeeplaw01.WireReturns", spec := "wireReturns", unfollowed := true, recurses := true, apart := false, narrowed := true }
def WireReturnsUptoSaid : Prop := wireReturnsUptoRow.holds Try.pinned (OpenSpec.upto wireReturnsSpec)

/-- 'kinkeeplaw01.WireCanonical', WHERE WHAT IT READS IS OF BULK AT MOST 1048576: true; the input reads as it did. -/
def wireCanonicalUptoRow : OpenClaim := { program := "ytknilabilihlnaa", sum := "fab73559a37ffbfbd57b5ab3c1bac044c20d176c442d927b5ec442dc3190fe48", func := "kinkeep/kinkeeplaw01.WireCanonical", spec := "wireCanonical", unfollowed := true, recurses := true, apart := false, narrowed := true }
def WireCanonicalUptoSaid : Prop := wireCanonicalUptoRow.holds Try.pinned (OpenSpec.upto wireCanonicalSpec)

end Rows
end Go.Proofs.Ytknilabilihlnaa
