/-
  No cell of these rows narrows 'for every input' (looked for: loops, veiled, ifaces, maps, wideKeys, modest, calm, conditions, laid).
  DERIVED. THE GIVEN ROWS OF THIS SEAT. 12 by the template 'for every input the law returns true; each argument reads behind the call as it read before'; 0 by the template 'total and deterministic' (their statements: YtkkblllhjcjcjaaTotals.lean).
  GIVEN WITH THE SEED: the statements are not yours to turn. If you find one false, say at which input.
  Laid BY PROGRAM, IN A SANDBOX (cutbox-rows.mjs): the forced cells as the released guide's own fill.sh prints them over the translation aba424ef457b883e… (all of the seat's roots in one cut). By AI agents, Wed Nov 11 2026. No macro, syntax, notation, axiom, sorry.
-/
import Derived.Test.YtkkblllhjcjcjaaChecked
import GoSem.Claim
import GoSem.ClaimJoined
import GoSem.ClaimMapViews
import Derived.JoinedTies
import Derived.KernelRfl
namespace Go.Proofs.Ytkkblllhjcjcjaa
/- THE CELL 'sum', in the pinned program and in every row, IS THE sha256 OF THE DUMP (.gsa) THAT YtkkblllhjcjcjaaProg.lean LOADS. Nothing in Lean hashes anything: it is a label: what it is worth is what the hold of that sum in a sandbox is worth. -/
noncomputable def Try.pinned : Pinned := { name := "ytkkblllhjcjcjaa", sum := "aba424ef457b883e0cb314d29b70c5c056b1dba38a1397f90b9854067448fc0a", checked := Try.checked }
namespace Rows
def none {H : Type} : Left H := { results := [], args := [] }

/-- 'laws.FnExactIsReduced': WHATEVER THE INPUT: true; the input reads as it did. -/
def fnExactIsReducedSpec : ChangeSpec := { name := "fnExactIsReduced", fn := fun _ => fun
  | [d] => { results := [.lit (.bool true)], args := [d] }
  | _ => none }
def fnExactIsReducedRow : OpenClaim := { program := "ytkkblllhjcjcjaa", sum := "aba424ef457b883e0cb314d29b70c5c056b1dba38a1397f90b9854067448fc0a", func := "loop.example/g00513/laws.FnExactIsReduced", spec := "fnExactIsReduced", unfollowed := true, recurses := true, apart := false }
def FnExactIsReducedSaid : Prop := fnExactIsReducedRow.holds Try.pinned (OpenSpec.ofChange fnExactIsReducedSpec)

/-- ITS FALSE NEIGHBOUR: 'it returns false'. Refute it at one input. -/
def fnExactIsReducedWrong : ChangeSpec := { name := "fnExactIsReduced", fn := fun _ => fun
  | [d] => { results := [.lit (.bool false)], args := [d] }
  | _ => none }
def FnExactIsReducedWrongFalsely : Prop := fnExactIsReducedRow.holds Try.pinned (OpenSpec.ofChange fnExactIsReducedWrong)

/-- 'laws.FnExactIsValidBasis': WHATEVER THE INPUT: true; the input reads as it did. -/
def fnExactIsValidBasisSpec : ChangeSpec := { name := "fnExactIsValidBasis", fn := fun _ => fun
  | [d] => { results := [.lit (.bool true)], args := [d] }
  | _ => none }
def fnExactIsValidBasisRow : OpenClaim := { program := "ytkkblllhjcjcjaa", sum := "aba424ef457b883e0cb314d29b70c5c056b1dba38a1397f90b9854067448fc0a", func := "loop.example/g00513/laws.FnExactIsValidBasis", spec := "fnExactIsValidBasis", unfollowed := true, recurses := true, apart := false }
def FnExactIsValidBasisSaid : Prop := fnExactIsValidBasisRow.holds Try.pinned (OpenSpec.ofChange fnExactIsValidBasisSpec)

/-- ITS FALSE NEIGHBOUR: 'it returns false'. Refute it at one input. -/
def fnExactIsValidBasisWrong : ChangeSpec := { name := "fnExactIsValidBasis", fn := fun _ => fun
  | [d] => { results := [.lit (.bool false)], args := [d] }
  | _ => none }
def FnExactIsValidBasisWrongFalsely : Prop := fnExactIsValidBasisRow.holds Try.pinned (OpenSpec.ofChange fnExactIsValidBasisWrong)

/-- 'laws.FnExactDeterminant': WHATEVER THE INPUT: true; the input reads as it did. -/
def fnExactDeterminantSpec : ChangeSpec := { name := "fnExactDeterminant", fn := fun _ => fun
  | [d] => { results := [.lit (.bool true)], args := [d] }
  | _ => none }
def fnExactDeterminantRow : OpenClaim := { program := "ytkkblllhjcjcjaa", sum := "aba424ef457b883e0cb314d29b70c5c056b1dba38a1397f90b9854067448fc0a", func := "loop.example/g00513/laws.FnExactDeterminant", spec := "fnExactDeterminant", unfollowed := true, recurses := true, apart := false }
def FnExactDeterminantSaid : Prop := fnExactDeterminantRow.holds Try.pinned (OpenSpec.ofChange fnExactDeterminantSpec)

/-- ITS FALSE NEIGHBOUR: 'it returns false'. Refute it at one input. -/
def fnExactDeterminantWrong : ChangeSpec := { name := "fnExactDeterminant", fn := fun _ => fun
  | [d] => { results := [.lit (.bool false)], args := [d] }
  | _ => none }
def FnExactDeterminantWrongFalsely : Prop := fnExactDeterminantRow.holds Try.pinned (OpenSpec.ofChange fnExactDeterminantWrong)

/-- 'laws.FnExactDimension': WHATEVER THE INPUT: true; the input reads as it did. -/
def fnExactDimensionSpec : ChangeSpec := { name := "fnExactDimension", fn := fun _ => fun
  | [d] => { results := [.lit (.bool true)], args := [d] }
  | _ => none }
def fnExactDimensionRow : OpenClaim := { program := "ytkkblllhjcjcjaa", sum := "aba424ef457b883e0cb314d29b70c5c056b1dba38a1397f90b9854067448fc0a", func := "loop.example/g00513/laws.FnExactDimension", spec := "fnExactDimension", unfollowed := true, recurses := true, apart := false }
def FnExactDimensionSaid : Prop := fnExactDimensionRow.holds Try.pinned (OpenSpec.ofChange fnExactDimensionSpec)

/-- ITS FALSE NEIGHBOUR: 'it returns false'. Refute it at one input. -/
def fnExactDimensionWrong : ChangeSpec := { name := "fnExactDimension", fn := fun _ => fun
  | [d] => { results := [.lit (.bool false)], args := [d] }
  | _ => none }
def FnExactDimensionWrongFalsely : Prop := fnExactDimensionRow.holds Try.pinned (OpenSpec.ofChange fnExactDimensionWrong)

/-- 'laws.FnExactContainsVector': WHATEVER THE INPUT: true; the input reads as it did. -/
def fnExactContainsVectorSpec : ChangeSpec := { name := "fnExactContainsVector", fn := fun _ => fun
  | [d1, d2] => { results := [.lit (.bool true)], args := [d1, d2] }
  | _ => none }
def fnExactContainsVectorRow : OpenClaim := { program := "ytkkblllhjcjcjaa", sum := "aba424ef457b883e0cb314d29b70c5c056b1dba38a1397f90b9854067448fc0a", func := "loop.example/g00513/laws.FnExactContainsVector", spec := "fnExactContainsVector", unfollowed := true, recurses := true, apart := false }
def FnExactContainsVectorSaid : Prop := fnExactContainsVectorRow.holds Try.pinned (OpenSpec.ofChange fnExactContainsVectorSpec)

/-- ITS FALSE NEIGHBOUR: 'it returns false'. Refute it at one input. -/
def fnExactContainsVectorWrong : ChangeSpec := { name := "fnExactContainsVector", fn := fun _ => fun
  | [d1, d2] => { results := [.lit (.bool false)], args := [d1, d2] }
  | _ => none }
def FnExactContainsVectorWrongFalsely : Prop := fnExactContainsVectorRow.holds Try.pinned (OpenSpec.ofChange fnExactContainsVectorWrong)

/-- 'laws.FnExactFreeColumns': WHATEVER THE INPUT: true; the input reads as it did. -/
def fnExactFreeColumnsSpec : ChangeSpec := { name := "fnExactFreeColumns", fn := fun _ => fun
  | [d] => { results := [.lit (.bool true)], args := [d] }
  | _ => none }
def fnExactFreeColumnsRow : OpenClaim := { program := "ytkkblllhjcjcjaa", sum := "aba424ef457b883e0cb314d29b70c5c056b1dba38a1397f90b9854067448fc0a", func := "loop.example/g00513/laws.FnExactFreeColumns", spec := "fnExactFreeColumns", unfollowed := true, recurses := true, apart := false }
def FnExactFreeColumnsSaid : Prop := fnExactFreeColumnsRow.holds Try.pinned (OpenSpec.ofChange fnExactFreeColumnsSpec)

/-- ITS FALSE NEIGHBOUR: 'it returns false'. Refute it at one input. -/
def fnExactFreeColumnsWrong : ChangeSpec := { name := "fnExactFreeColumns", fn := fun _ => fun
  | [d] => { results := [.lit (.bool false)], args := [d] }
  | _ => none }
def FnExactFreeColumnsWrongFalsely : Prop := fnExactFreeColumnsRow.holds Try.pinned (OpenSpec.ofChange fnExactFreeColumnsWrong)

/-- 'laws.FnExactIsSubspace': WHATEVER THE INPUT: true; the input reads as it did. -/
def fnExactIsSubspaceSpec : ChangeSpec := { name := "fnExactIsSubspace", fn := fun _ => fun
  | [d1, d2] => { results := [.lit (.bool true)], args := [d1, d2] }
  | _ => none }
def fnExactIsSubspaceRow : OpenClaim := { program := "ytkkblllhjcjcjaa", sum := "aba424ef457b883e0cb314d29b70c5c056b1dba38a1397f90b9854067448fc0a", func := "loop.example/g00513/laws.FnExactIsSubspace", spec := "fnExactIsSubspace", unfollowed := true, recurses := true, apart := false }
def FnExactIsSubspaceSaid : Prop := fnExactIsSubspaceRow.holds Try.pinned (OpenSpec.ofChange fnExactIsSubspaceSpec)

/-- ITS FALSE NEIGHBOUR: 'it returns false'. Refute it at one input. -/
def fnExactIsSubspaceWrong : ChangeSpec := { name := "fnExactIsSubspace", fn := fun _ => fun
  | [d1, d2] => { results := [.lit (.bool false)], args := [d1, d2] }
  | _ => none }
def FnExactIsSubspaceWrongFalsely : Prop := fnExactIsSubspaceRow.holds Try.pinned (OpenSpec.ofChange fnExactIsSubspaceWrong)

/-- 'laws.FnExactReduceVector': WHATEVER THE INPUT: true; the input reads as it did. -/
def fnExactReduceVectorSpec : ChangeSpec := { name := "fnExactReduceVector", fn := fun _ => fun
  | [d1, d2] => { results := [.lit (.bool true)], args := [d1, d2] }
  | _ => none }
def fnExactReduceVectorRow : OpenClaim := { program := "ytkkblllhjcjcjaa", sum := "aba424ef457b883e0cb314d29b70c5c056b1dba38a1397f90b9854067448fc0a", func := "loop.example/g00513/laws.FnExactReduceVector", spec := "fnExactReduceVector", unfollowed := true, recurses := true, apart := false }
def FnExactReduceVectorSaid : Prop := fnExactReduceVectorRow.holds Try.pinned (OpenSpec.ofChange fnExactReduceVectorSpec)

/-- ITS FALSE NEIGHBOUR: 'it returns false'. Refute it at one input. -/
def fnExactReduceVectorWrong : ChangeSpec := { name := "fnExactReduceVector", fn := fun _ => fun
  | [d1, d2] => { results := [.lit (.bool false)], args := [d1, d2] }
  | _ => none }
def FnExactReduceVectorWrongFalsely : Prop := fnExactReduceVectorRow.holds Try.pinned (OpenSpec.ofChange fnExactReduceVectorWrong)

/-- 'laws.FnExactCoordinates': WHATEVER THE INPUT: true; the input reads as it did. -/
def fnExactCoordinatesSpec : ChangeSpec := { name := "fnExactCoordinates", fn := fun _ => fun
  | [d1, d2] => { results := [.lit (.bool true)], args := [d1, d2] }
  | _ => none }
def fnExactCoordinatesRow : OpenClaim := { program := "ytkkblllhjcjcjaa", sum := "aba424ef457b883e0cb314d29b70c5c056b1dba38a1397f90b9854067448fc0a", func := "loop.example/g00513/laws.FnExactCoordinates", spec := "fnExactCoordinates", unfollowed := true, recurses := true, apart := false }
def FnExactCoordinatesSaid : Prop := fnExactCoordinatesRow.holds Try.pinned (OpenSpec.ofChange fnExactCoordinatesSpec)

/-- ITS FALSE NEIGHBOUR: 'it returns false'. Refute it at one input. -/
def fnExactCoordinatesWrong : ChangeSpec := { name := "fnExactCoordinates", fn := fun _ => fun
  | [d1, d2] => { results := [.lit (.bool false)], args := [d1, d2] }
  | _ => none }
def FnExactCoordinatesWrongFalsely : Prop := fnExactCoordinatesRow.holds Try.pinned (OpenSpec.ofChange fnExactCoordinatesWrong)

/-- 'laws.FnExactRank': WHATEVER THE INPUT: true; the input reads as it did. -/
def fnExactRankSpec : ChangeSpec := { name := "fnExactRank", fn := fun _ => fun
  | [d] => { results := [.lit (.bool true)], args := [d] }
  | _ => none }
def fnExactRankRow : OpenClaim := { program := "ytkkblllhjcjcjaa", sum := "aba424ef457b883e0cb314d29b70c5c056b1dba38a1397f90b9854067448fc0a", func := "loop.example/g00513/laws.FnExactRank", spec := "fnExactRank", inPlace := ["slices.overlaps[[]int]"], unfollowed := true, recurses := true, apart := false }
def FnExactRankSaid : Prop := fnExactRankRow.holds Try.pinned (OpenSpec.ofChange fnExactRankSpec)

/-- ITS FALSE NEIGHBOUR: 'it returns false'. Refute it at one input. -/
def fnExactRankWrong : ChangeSpec := { name := "fnExactRank", fn := fun _ => fun
  | [d] => { results := [.lit (.bool false)], args := [d] }
  | _ => none }
def FnExactRankWrongFalsely : Prop := fnExactRankRow.holds Try.pinned (OpenSpec.ofChange fnExactRankWrong)

/-- 'laws.FnExactRowReduce': WHATEVER THE INPUT: true; the input reads as it did. -/
def fnExactRowReduceSpec : ChangeSpec := { name := "fnExactRowReduce", fn := fun _ => fun
  | [d] => { results := [.lit (.bool true)], args := [d] }
  | _ => none }
def fnExactRowReduceRow : OpenClaim := { program := "ytkkblllhjcjcjaa", sum := "aba424ef457b883e0cb314d29b70c5c056b1dba38a1397f90b9854067448fc0a", func := "loop.example/g00513/laws.FnExactRowReduce", spec := "fnExactRowReduce", inPlace := ["slices.overlaps[[]int]"], unfollowed := true, recurses := true, apart := false }
def FnExactRowReduceSaid : Prop := fnExactRowReduceRow.holds Try.pinned (OpenSpec.ofChange fnExactRowReduceSpec)

/-- ITS FALSE NEIGHBOUR: 'it returns false'. Refute it at one input. -/
def fnExactRowReduceWrong : ChangeSpec := { name := "fnExactRowReduce", fn := fun _ => fun
  | [d] => { results := [.lit (.bool false)], args := [d] }
  | _ => none }
def FnExactRowReduceWrongFalsely : Prop := fnExactRowReduceRow.holds Try.pinned (OpenSpec.ofChange fnExactRowReduceWrong)

/-- 'laws.FnExactSolveSystem': WHATEVER THE INPUT: true; the input reads as it did. -/
def fnExactSolveSystemSpec : ChangeSpec := { name := "fnExactSolveSystem", fn := fun _ => fun
  | [d1, d2] => { results := [.lit (.bool true)], args := [d1, d2] }
  | _ => none }
def fnExactSolveSystemRow : OpenClaim := { program := "ytkkblllhjcjcjaa", sum := "aba424ef457b883e0cb314d29b70c5c056b1dba38a1397f90b9854067448fc0a", func := "loop.example/g00513/laws.FnExactSolveSystem", spec := "fnExactSolveSystem", inPlace := ["slices.overlaps[[]int]"], unfollowed := true, recurses := true, apart := false }
def FnExactSolveSystemSaid : Prop := fnExactSolveSystemRow.holds Try.pinned (OpenSpec.ofChange fnExactSolveSystemSpec)

/-- ITS FALSE NEIGHBOUR: 'it returns false'. Refute it at one input. -/
def fnExactSolveSystemWrong : ChangeSpec := { name := "fnExactSolveSystem", fn := fun _ => fun
  | [d1, d2] => { results := [.lit (.bool false)], args := [d1, d2] }
  | _ => none }
def FnExactSolveSystemWrongFalsely : Prop := fnExactSolveSystemRow.holds Try.pinned (OpenSpec.ofChange fnExactSolveSystemWrong)

/- THE SECOND FORM. 'bulk': how many values and letters a reading holds, each counted each time it is reached (what is shared counts as often as it is met; a slice's spare places count too). A statement '..UptoSaid' is the law's where the arguments, and the package variables that the reading takes, are together of bulk at most 1048576: NARROWER than '..Said'. Prove '..Said' where nothing that the law and all that it calls make is longer than what came in: it says more and counts as full. Else prove '..UptoSaid'. A law counts once. -/
mutual
def uptoBulk {H : Type} : DataW H → Nat
  | .lit (.string bytes) => bytes.length + 1
  | .lit _ => 1
  | .nil => 1
  | .ptr d => uptoBulk d + 1
  | .slice elems spare => uptoBulkAll elems + uptoBulkAll spare + 1
  | .agg parts => uptoBulkAll parts + 1
  | .iface _ d => uptoBulk d + 1
  | .map entries => uptoBulkEntries entries + 1
  | .held _ => 1
def uptoBulkAll {H : Type} : List (DataW H) → Nat
  | [] => 0
  | d :: r => uptoBulk d + uptoBulkAll r
def uptoBulkEntries {H : Type} : List (Lit × DataW H) → Nat
  | [] => 0
  | x :: r => uptoBulkEntry x + uptoBulkEntries r
def uptoBulkEntry {H : Type} : Lit × DataW H → Nat
  | (.string bytes, d) => bytes.length + uptoBulk d + 1
  | (_, d) => uptoBulk d + 1
 end
def uptoSmall : (H : Type) → List (DataW H) → Bool := fun _ ds => decide (uptoBulkAll ds ≤ 1048576)
def OpenSpec.upto (s : _root_.Go.ChangeSpec) : _root_.Go.OpenSpec := { _root_.Go.OpenSpec.ofChange s with cond := some uptoSmall }

/-- 'laws.FnExactIsReduced', WHERE WHAT IT READS IS OF BULK AT MOST 1048576: true; the input reads as it did. -/
def fnExactIsReducedUptoRow : OpenClaim := { program := "ytkkblllhjcjcjaa", sum := "aba424ef457b883e0cb314d29b70c5c056b1dba38a1397f90b9854067448fc0a", func := "loop.example/g00513/laws.FnExactIsReduced", spec := "fnExactIsReduced", unfollowed := true, recurses := true, apart := false, narrowed := true }
def FnExactIsReducedUptoSaid : Prop := fnExactIsReducedUptoRow.holds Try.pinned (OpenSpec.upto fnExactIsReducedSpec)

/-- 'laws.FnExactIsValidBasis', WHERE WHAT IT READS IS OF BULK AT MOST 1048576: true; the input reads as it did. -/
def fnExactIsValidBasisUptoRow : OpenClaim := { program := "ytkkblllhjcjcjaa", sum := "aba424ef457b883e0cb314d29b70c5c056b1dba38a1397f90b9854067448fc0a", func := "loop.example/g00513/laws.FnExactIsValidBasis", spec := "fnExactIsValidBasis", unfollowed := true, recurses := true, apart := false, narrowed := true }
def FnExactIsValidBasisUptoSaid : Prop := fnExactIsValidBasisUptoRow.holds Try.pinned (OpenSpec.upto fnExactIsValidBasisSpec)

/-- 'laws.FnExactDeterminant', WHERE WHAT IT READS IS OF BULK AT MOST 1048576: true; the input reads as it did. -/
def fnExactDeterminantUptoRow : OpenClaim := { program := "ytkkblllhjcjcjaa", sum := "aba424ef457b883e0cb314d29b70c5c056b1dba38a1397f90b9854067448fc0a", func := "loop.example/g00513/laws.FnExactDeterminant", spec := "fnExactDeterminant", unfollowed := true, recurses := true, apart := false, narrowed := true }
def FnExactDeterminantUptoSaid : Prop := fnExactDeterminantUptoRow.holds Try.pinned (OpenSpec.upto fnExactDeterminantSpec)

/-- 'laws.FnExactDimension', WHERE WHAT IT READS IS OF BULK AT MOST 1048576: true; the input reads as it did. -/
def fnExactDimensionUptoRow : OpenClaim := { program := "ytkkblllhjcjcjaa", sum := "aba424ef457b883e0cb314d29b70c5c056b1dba38a1397f90b9854067448fc0a", func := "loop.example/g00513/laws.FnExactDimension", spec := "fnExactDimension", unfollowed := true, recurses := true, apart := false, narrowed := true }
def FnExactDimensionUptoSaid : Prop := fnExactDimensionUptoRow.holds Try.pinned (OpenSpec.upto fnExactDimensionSpec)

/-- 'laws.FnExactContainsVector', WHERE WHAT IT READS IS OF BULK AT MOST 1048576: true; the input reads as it did. -/
def fnExactContainsVectorUptoRow : OpenClaim := { program := "ytkkblllhjcjcjaa", sum := "aba424ef457b883e0cb314d29b70c5c056b1dba38a1397f90b9854067448fc0a", func := "loop.example/g00513/laws.FnExactContainsVector", spec := "fnExactContainsVector", unfollowed := true, recurses := true, apart := false, narrowed := true }
def FnExactContainsVectorUptoSaid : Prop := fnExactContainsVectorUptoRow.holds Try.pinned (OpenSpec.upto fnExactContainsVectorSpec)

/-- 'laws.FnExactFreeColumns', WHERE WHAT IT READS IS OF BULK AT MOST 1048576: true; the input reads as it did. -/
def fnExactFreeColumnsUptoRow : OpenClaim := { program := "ytkkblllhjcjcjaa", sum := "aba424ef457b883e0cb314d29b70c5c056b1dba38a1397f90b9854067448fc0a", func := "loop.example/g00513/laws.FnExactFreeColumns", spec := "fnExactFreeColumns", unfollowed := true, recurses := true, apart := false, narrowed := true }
def FnExactFreeColumnsUptoSaid : Prop := fnExactFreeColumnsUptoRow.holds Try.pinned (OpenSpec.upto fnExactFreeColumnsSpec)

/-- 'laws.FnExactIsSubspace', WHERE WHAT IT READS IS OF BULK AT MOST 1048576: true; the input reads as it did. -/
def fnExactIsSubspaceUptoRow : OpenClaim := { program := "ytkkblllhjcjcjaa", sum := "aba424ef457b883e0cb314d29b70c5c056b1dba38a1397f90b9854067448fc0a", func := "loop.example/g00513/laws.FnExactIsSubspace", spec := "fnExactIsSubspace", unfollowed := true, recurses := true, apart := false, narrowed := true }
def FnExactIsSubspaceUptoSaid : Prop := fnExactIsSubspaceUptoRow.holds Try.pinned (OpenSpec.upto fnExactIsSubspaceSpec)

/-- 'laws.FnExactReduceVector', WHERE WHAT IT READS IS OF BULK AT MOST 1048576: true; the input reads as it did. -/
def fnExactReduceVectorUptoRow : OpenClaim := { program := "ytkkblllhjcjcjaa", sum := "aba424ef457b883e0cb314d29b70c5c056b1dba38a1397f90b9854067448fc0a", func := "loop.example/g00513/laws.FnExactReduceVector", spec := "fnExactReduceVector", unfollowed := true, recurses := true, apart := false, narrowed := true }
def FnExactReduceVectorUptoSaid : Prop := fnExactReduceVectorUptoRow.holds Try.pinned (OpenSpec.upto fnExactReduceVectorSpec)

/-- 'laws.FnExactCoordinates', WHERE WHAT IT READS IS OF BULK AT MOST 1048576: true; the input reads as it did. -/
def fnExactCoordinatesUptoRow : OpenClaim := { program := "ytkkblllhjcjcjaa", sum := "aba424ef457b883e0cb314d29b70c5c056b1dba38a1397f90b9854067448fc0a", func := "loop.example/g00513/laws.FnExactCoordinates", spec := "fnExactCoordinates", unfollowed := true, recurses := true, apart := false, narrowed := true }
def FnExactCoordinatesUptoSaid : Prop := fnExactCoordinatesUptoRow.holds Try.pinned (OpenSpec.upto fnExactCoordinatesSpec)

/-- 'laws.FnExactRank', WHERE WHAT IT READS IS OF BULK AT MOST 1048576: true; the input reads as it did. -/
def fnExactRankUptoRow : OpenClaim := { program := "ytkkblllhjcjcjaa", sum := "aba424ef457b883e0cb314d29b70c5c056b1dba38a1397f90b9854067448fc0a", func := "loop.example/g00513/laws.FnExactRank", spec := "fnExactRank", inPlace := ["slices.overlaps[[]int]"], unfollowed := true, recurses := true, apart := false, narrowed := true }
def FnExactRankUptoSaid : Prop := fnExactRankUptoRow.holds Try.pinned (OpenSpec.upto fnExactRankSpec)

/-- 'laws.FnExactRowReduce', WHERE WHAT IT READS IS OF BULK AT MOST 1048576: true; the input reads as it did. -/
def fnExactRowReduceUptoRow : OpenClaim := { program := "ytkkblllhjcjcjaa", sum := "aba424ef457b883e0cb314d29b70c5c056b1dba38a1397f90b9854067448fc0a", func := "loop.example/g00513/laws.FnExactRowReduce", spec := "fnExactRowReduce", inPlace := ["slices.overlaps[[]int]"], unfollowed := true, recurses := true, apart := false, narrowed := true }
def FnExactRowReduceUptoSaid : Prop := fnExactRowReduceUptoRow.holds Try.pinned (OpenSpec.upto fnExactRowReduceSpec)

/-- 'laws.FnExactSolveSystem', WHERE WHAT IT READS IS OF BULK AT MOST 1048576: true; the input reads as it did. -/
def fnExactSolveSystemUptoRow : OpenClaim := { program := "ytkkblllhjcjcjaa", sum := "aba424ef457b883e0cb314d29b70c5c056b1dba38a1397f90b9854067448fc0a", func := "loop.example/g00513/laws.FnExactSolveSystem", spec := "fnExactSolveSystem", inPlace := ["slices.overlaps[[]int]"], unfollowed := true, recurses := true, apart := false, narrowed := true }
def FnExactSolveSystemUptoSaid : Prop := fnExactSolveSystemUptoRow.holds Try.pinned (OpenSpec.upto fnExactSolveSystemSpec)

end Rows
end Go.Proofs.Ytkkblllhjcjcjaa
