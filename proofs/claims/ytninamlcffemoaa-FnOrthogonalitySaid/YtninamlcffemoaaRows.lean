/-
  No cell of these rows narrows 'for every input' (looked for: loops, veiled, ifaces, maps, wideKeys, modest, calm, conditions, laid).
  DERIVED. THE GIVEN ROWS OF THIS SEAT. 11 by the template 'for every input the law returns true; each argument reads behind the call as it read before'; 0 by the template 'total and deterministic' (their statements: YtninamlcffemoaaTotals.lean).
  GIVEN WITH THE SEED: the statements are not yours to turn. If you find one false, say at which input.
  Laid BY PROGRAM, IN A SANDBOX (cutbox-rows.mjs): the forced cells as the released guide's own fill.sh prints them over the translation 8108c23196cf7ac1… (all of the seat's roots in one cut). By AI agents, Wed Nov 11 2026. No macro, syntax, notation, axiom, sorry.
-/
import Derived.Test.YtninamlcffemoaaChecked
import GoSem.Claim
import GoSem.ClaimJoined
import GoSem.ClaimMapViews
import Derived.JoinedTies
import Derived.KernelRfl
namespace Go.Proofs.Ytninamlcffemoaa
/- THE CELL 'sum', in the pinned program and in every row, IS THE sha256 OF THE DUMP (.gsa) THAT YtninamlcffemoaaProg.lean LOADS. Nothing in Lean hashes anything: it is a label: what it is worth is what the hold of that sum in a sandbox is worth. -/
noncomputable def Try.pinned : Pinned := { name := "ytninamlcffemoaa", sum := "8108c23196cf7ac1c3c239c4c38949f92b0f6c32878f7d315a7c8f59f236bf24", checked := Try.checked }
namespace Rows
def none {H : Type} : Left H := { results := [], args := [] }

/-- 'laws.FnExactDeterminant': WHATEVER THE INPUT: true; the input reads as it did. -/
def fnExactDeterminantSpec : ChangeSpec := { name := "fnExactDeterminant", fn := fun _ => fun
  | [d] => { results := [.lit (.bool true)], args := [d] }
  | _ => none }
def fnExactDeterminantRow : OpenClaim := { program := "ytninamlcffemoaa", sum := "8108c23196cf7ac1c3c239c4c38949f92b0f6c32878f7d315a7c8f59f236bf24", func := "loop.example/g00513/laws.FnExactDeterminant", spec := "fnExactDeterminant", unfollowed := true, recurses := true, apart := false }
def FnExactDeterminantSaid : Prop := fnExactDeterminantRow.holds Try.pinned (OpenSpec.ofChange fnExactDeterminantSpec)

/-- ITS FALSE NEIGHBOUR: 'it returns false'. Refute it at one input. -/
def fnExactDeterminantWrong : ChangeSpec := { name := "fnExactDeterminant", fn := fun _ => fun
  | [d] => { results := [.lit (.bool false)], args := [d] }
  | _ => none }
def FnExactDeterminantWrongFalsely : Prop := fnExactDeterminantRow.holds Try.pinned (OpenSpec.ofChange fnExactDeterminantWrong)

/-- 'laws.FnExactInvertMatrix': WHATEVER THE INPUT: true; the input reads as it did. -/
def fnExactInvertMatrixSpec : ChangeSpec := { name := "fnExactInvertMatrix", fn := fun _ => fun
  | [d] => { results := [.lit (.bool true)], args := [d] }
  | _ => none }
def fnExactInvertMatrixRow : OpenClaim := { program := "ytninamlcffemoaa", sum := "8108c23196cf7ac1c3c239c4c38949f92b0f6c32878f7d315a7c8f59f236bf24", func := "loop.example/g00513/laws.FnExactInvertMatrix", spec := "fnExactInvertMatrix", inPlace := ["slices.overlaps[[]int]"], unfollowed := true, recurses := true, apart := false }
def FnExactInvertMatrixSaid : Prop := fnExactInvertMatrixRow.holds Try.pinned (OpenSpec.ofChange fnExactInvertMatrixSpec)

/-- ITS FALSE NEIGHBOUR: 'it returns false'. Refute it at one input. -/
def fnExactInvertMatrixWrong : ChangeSpec := { name := "fnExactInvertMatrix", fn := fun _ => fun
  | [d] => { results := [.lit (.bool false)], args := [d] }
  | _ => none }
def FnExactInvertMatrixWrongFalsely : Prop := fnExactInvertMatrixRow.holds Try.pinned (OpenSpec.ofChange fnExactInvertMatrixWrong)

/-- 'laws.FnInverses': WHATEVER THE INPUT: true; the input reads as it did. -/
def fnInversesSpec : ChangeSpec := { name := "fnInverses", fn := fun _ => fun
  | [d] => { results := [.lit (.bool true)], args := [d] }
  | _ => none }
def fnInversesRow : OpenClaim := { program := "ytninamlcffemoaa", sum := "8108c23196cf7ac1c3c239c4c38949f92b0f6c32878f7d315a7c8f59f236bf24", func := "loop.example/g00513/laws.FnInverses", spec := "fnInverses", inPlace := ["slices.overlaps[[]int]"], unfollowed := true, recurses := true, apart := false }
def FnInversesSaid : Prop := fnInversesRow.holds Try.pinned (OpenSpec.ofChange fnInversesSpec)

/-- ITS FALSE NEIGHBOUR: 'it returns false'. Refute it at one input. -/
def fnInversesWrong : ChangeSpec := { name := "fnInverses", fn := fun _ => fun
  | [d] => { results := [.lit (.bool false)], args := [d] }
  | _ => none }
def FnInversesWrongFalsely : Prop := fnInversesRow.holds Try.pinned (OpenSpec.ofChange fnInversesWrong)

/-- 'laws.FnElimination': WHATEVER THE INPUT: true; the input reads as it did. -/
def fnEliminationSpec : ChangeSpec := { name := "fnElimination", fn := fun _ => fun
  | [d] => { results := [.lit (.bool true)], args := [d] }
  | _ => none }
def fnEliminationRow : OpenClaim := { program := "ytninamlcffemoaa", sum := "8108c23196cf7ac1c3c239c4c38949f92b0f6c32878f7d315a7c8f59f236bf24", func := "loop.example/g00513/laws.FnElimination", spec := "fnElimination", inPlace := ["slices.overlaps[[]int]"], unfollowed := true, recurses := true, apart := false }
def FnEliminationSaid : Prop := fnEliminationRow.holds Try.pinned (OpenSpec.ofChange fnEliminationSpec)

/-- ITS FALSE NEIGHBOUR: 'it returns false'. Refute it at one input. -/
def fnEliminationWrong : ChangeSpec := { name := "fnElimination", fn := fun _ => fun
  | [d] => { results := [.lit (.bool false)], args := [d] }
  | _ => none }
def FnEliminationWrongFalsely : Prop := fnEliminationRow.holds Try.pinned (OpenSpec.ofChange fnEliminationWrong)

/-- 'laws.FnSystems': WHATEVER THE INPUT: true; the input reads as it did. -/
def fnSystemsSpec : ChangeSpec := { name := "fnSystems", fn := fun _ => fun
  | [d] => { results := [.lit (.bool true)], args := [d] }
  | _ => none }
def fnSystemsRow : OpenClaim := { program := "ytninamlcffemoaa", sum := "8108c23196cf7ac1c3c239c4c38949f92b0f6c32878f7d315a7c8f59f236bf24", func := "loop.example/g00513/laws.FnSystems", spec := "fnSystems", inPlace := ["slices.overlaps[[]int]"], unfollowed := true, recurses := true, apart := false }
def FnSystemsSaid : Prop := fnSystemsRow.holds Try.pinned (OpenSpec.ofChange fnSystemsSpec)

/-- ITS FALSE NEIGHBOUR: 'it returns false'. Refute it at one input. -/
def fnSystemsWrong : ChangeSpec := { name := "fnSystems", fn := fun _ => fun
  | [d] => { results := [.lit (.bool false)], args := [d] }
  | _ => none }
def FnSystemsWrongFalsely : Prop := fnSystemsRow.holds Try.pinned (OpenSpec.ofChange fnSystemsWrong)

/-- 'laws.FnOrthogonality': WHATEVER THE INPUT: true; the input reads as it did. -/
def fnOrthogonalitySpec : ChangeSpec := { name := "fnOrthogonality", fn := fun _ => fun
  | [d] => { results := [.lit (.bool true)], args := [d] }
  | _ => none }
def fnOrthogonalityRow : OpenClaim := { program := "ytninamlcffemoaa", sum := "8108c23196cf7ac1c3c239c4c38949f92b0f6c32878f7d315a7c8f59f236bf24", func := "loop.example/g00513/laws.FnOrthogonality", spec := "fnOrthogonality", inPlace := ["slices.overlaps[[]int]"], unfollowed := true, recurses := true, apart := false }
def FnOrthogonalitySaid : Prop := fnOrthogonalityRow.holds Try.pinned (OpenSpec.ofChange fnOrthogonalitySpec)

/-- ITS FALSE NEIGHBOUR: 'it returns false'. Refute it at one input. -/
def fnOrthogonalityWrong : ChangeSpec := { name := "fnOrthogonality", fn := fun _ => fun
  | [d] => { results := [.lit (.bool false)], args := [d] }
  | _ => none }
def FnOrthogonalityWrongFalsely : Prop := fnOrthogonalityRow.holds Try.pinned (OpenSpec.ofChange fnOrthogonalityWrong)

/-- 'laws.FnCoordinates': WHATEVER THE INPUT: true; the input reads as it did. -/
def fnCoordinatesSpec : ChangeSpec := { name := "fnCoordinates", fn := fun _ => fun
  | [d] => { results := [.lit (.bool true)], args := [d] }
  | _ => none }
def fnCoordinatesRow : OpenClaim := { program := "ytninamlcffemoaa", sum := "8108c23196cf7ac1c3c239c4c38949f92b0f6c32878f7d315a7c8f59f236bf24", func := "loop.example/g00513/laws.FnCoordinates", spec := "fnCoordinates", inPlace := ["slices.overlaps[[]int]"], unfollowed := true, recurses := true, apart := false }
def FnCoordinatesSaid : Prop := fnCoordinatesRow.holds Try.pinned (OpenSpec.ofChange fnCoordinatesSpec)

/-- ITS FALSE NEIGHBOUR: 'it returns false'. Refute it at one input. -/
def fnCoordinatesWrong : ChangeSpec := { name := "fnCoordinates", fn := fun _ => fun
  | [d] => { results := [.lit (.bool false)], args := [d] }
  | _ => none }
def FnCoordinatesWrongFalsely : Prop := fnCoordinatesRow.holds Try.pinned (OpenSpec.ofChange fnCoordinatesWrong)

/-- 'laws.FnExactShuffle': WHATEVER THE INPUT: true; the input reads as it did. -/
def fnExactShuffleSpec : ChangeSpec := { name := "fnExactShuffle", fn := fun _ => fun
  | [d1, d2] => { results := [.lit (.bool true)], args := [d1, d2] }
  | _ => none }
def fnExactShuffleRow : OpenClaim := { program := "ytninamlcffemoaa", sum := "8108c23196cf7ac1c3c239c4c38949f92b0f6c32878f7d315a7c8f59f236bf24", func := "loop.example/g00513/laws.FnExactShuffle", spec := "fnExactShuffle", apart := false }
def FnExactShuffleSaid : Prop := fnExactShuffleRow.holds Try.pinned (OpenSpec.ofChange fnExactShuffleSpec)

/-- ITS FALSE NEIGHBOUR: 'it returns false'. Refute it at one input. -/
def fnExactShuffleWrong : ChangeSpec := { name := "fnExactShuffle", fn := fun _ => fun
  | [d1, d2] => { results := [.lit (.bool false)], args := [d1, d2] }
  | _ => none }
def FnExactShuffleWrongFalsely : Prop := fnExactShuffleRow.holds Try.pinned (OpenSpec.ofChange fnExactShuffleWrong)

/-- 'laws.FnExactRandomSubset': WHATEVER THE INPUT: true; the input reads as it did. -/
def fnExactRandomSubsetSpec : ChangeSpec := { name := "fnExactRandomSubset", fn := fun _ => fun
  | [d1, d2, d3] => { results := [.lit (.bool true)], args := [d1, d2, d3] }
  | _ => none }
def fnExactRandomSubsetRow : OpenClaim := { program := "ytninamlcffemoaa", sum := "8108c23196cf7ac1c3c239c4c38949f92b0f6c32878f7d315a7c8f59f236bf24", func := "loop.example/g00513/laws.FnExactRandomSubset", spec := "fnExactRandomSubset", recurses := true, apart := false }
def FnExactRandomSubsetSaid : Prop := fnExactRandomSubsetRow.holds Try.pinned (OpenSpec.ofChange fnExactRandomSubsetSpec)

/-- ITS FALSE NEIGHBOUR: 'it returns false'. Refute it at one input. -/
def fnExactRandomSubsetWrong : ChangeSpec := { name := "fnExactRandomSubset", fn := fun _ => fun
  | [d1, d2, d3] => { results := [.lit (.bool false)], args := [d1, d2, d3] }
  | _ => none }
def FnExactRandomSubsetWrongFalsely : Prop := fnExactRandomSubsetRow.holds Try.pinned (OpenSpec.ofChange fnExactRandomSubsetWrong)

/-- 'laws.FnExactSparseVector': WHATEVER THE INPUT: true; the input reads as it did. -/
def fnExactSparseVectorSpec : ChangeSpec := { name := "fnExactSparseVector", fn := fun _ => fun
  | [d1, d2, d3] => { results := [.lit (.bool true)], args := [d1, d2, d3] }
  | _ => none }
def fnExactSparseVectorRow : OpenClaim := { program := "ytninamlcffemoaa", sum := "8108c23196cf7ac1c3c239c4c38949f92b0f6c32878f7d315a7c8f59f236bf24", func := "loop.example/g00513/laws.FnExactSparseVector", spec := "fnExactSparseVector", recurses := true, apart := false }
def FnExactSparseVectorSaid : Prop := fnExactSparseVectorRow.holds Try.pinned (OpenSpec.ofChange fnExactSparseVectorSpec)

/-- ITS FALSE NEIGHBOUR: 'it returns false'. Refute it at one input. -/
def fnExactSparseVectorWrong : ChangeSpec := { name := "fnExactSparseVector", fn := fun _ => fun
  | [d1, d2, d3] => { results := [.lit (.bool false)], args := [d1, d2, d3] }
  | _ => none }
def FnExactSparseVectorWrongFalsely : Prop := fnExactSparseVectorRow.holds Try.pinned (OpenSpec.ofChange fnExactSparseVectorWrong)

/-- 'laws.FnRandomChoices': WHATEVER THE INPUT: true; the input reads as it did. -/
def fnRandomChoicesSpec : ChangeSpec := { name := "fnRandomChoices", fn := fun _ => fun
  | [d] => { results := [.lit (.bool true)], args := [d] }
  | _ => none }
def fnRandomChoicesRow : OpenClaim := { program := "ytninamlcffemoaa", sum := "8108c23196cf7ac1c3c239c4c38949f92b0f6c32878f7d315a7c8f59f236bf24", func := "loop.example/g00513/laws.FnRandomChoices", spec := "fnRandomChoices", inPlace := ["slices.overlaps[[]int]"], unfollowed := true, recurses := true, apart := false }
def FnRandomChoicesSaid : Prop := fnRandomChoicesRow.holds Try.pinned (OpenSpec.ofChange fnRandomChoicesSpec)

/-- ITS FALSE NEIGHBOUR: 'it returns false'. Refute it at one input. -/
def fnRandomChoicesWrong : ChangeSpec := { name := "fnRandomChoices", fn := fun _ => fun
  | [d] => { results := [.lit (.bool false)], args := [d] }
  | _ => none }
def FnRandomChoicesWrongFalsely : Prop := fnRandomChoicesRow.holds Try.pinned (OpenSpec.ofChange fnRandomChoicesWrong)

/- THE SECOND FORM. 'bulk': how many values and letters a reading holds, each counted each time it is reached (what is shared counts as often as it is met; a slice's spare places count too). A statement '..UptoSaid' is the law's where the arguments, and the package variables that the reading takes, are together of bulk at most 1048576: NARROWER than '..Said'. Prove '..Said' where nothing that the law and all that it calls make is longer than what came in: it says more and counts as full. Else prove '..UptoSaid'. A law counts once. -/
mutual
def uptoBulk {H : Type} : DataW H → Nat
  | .lit (.string bytes) => bytes.length + 1
  | .lit _ => 1
  | .nil => 1
  | .ptr d => uptoBulk d + 1
  | .slice elems spare => uptoBulkAll elems + uptoBulkAll spare + 1
  | .agg parts => uptoBulkAll parts + 1
  | .iface _ d => uptoBulk d + 1
  | .map entries => uptoBulkEntries entries + 1
  | .held _ => 1
def uptoBulkAll {H : Type} : List (DataW H) → Nat
  | [] => 0
  | d :: r => uptoBulk d + uptoBulkAll r
def uptoBulkEntries {H : Type} : List (Lit × DataW H) → Nat
  | [] => 0
  | x :: r => uptoBulkEntry x + uptoBulkEntries r
def uptoBulkEntry {H : Type} : Lit × DataW H → Nat
  | (.string bytes, d) => bytes.length + uptoBulk d + 1
  | (_, d) => uptoBulk d + 1
 end
def uptoSmall : (H : Type) → List (DataW H) → Bool := fun _ ds => decide (uptoBulkAll ds ≤ 1048576)
def OpenSpec.upto (s : _root_.Go.ChangeSpec) : _root_.Go.OpenSpec := { _root_.Go.OpenSpec.ofChange s with cond := some uptoSmall }

/-- 'laws.FnExactDeterminant', WHERE WHAT IT READS IS OF BULK AT MOST 1048576: true; the input reads as it did. -/
def fnExactDeterminantUptoRow : OpenClaim := { program := "ytninamlcffemoaa", sum := "8108c23196cf7ac1c3c239c4c38949f92b0f6c32878f7d315a7c8f59f236bf24", func := "loop.example/g00513/laws.FnExactDeterminant", spec := "fnExactDeterminant", unfollowed := true, recurses := true, apart := false, narrowed := true }
def FnExactDeterminantUptoSaid : Prop := fnExactDeterminantUptoRow.holds Try.pinned (OpenSpec.upto fnExactDeterminantSpec)

/-- 'laws.FnExactInvertMatrix', WHERE WHAT IT READS IS OF BULK AT MOST 1048576: true; the input reads as it did. -/
def fnExactInvertMatrixUptoRow : OpenClaim := { program := "ytninamlcffemoaa", sum := "8108c23196cf7ac1c3c239c4c38949f92b0f6c32878f7d315a7c8f59f236bf24", func := "loop.example/g00513/laws.FnExactInvertMatrix", spec := "fnExactInvertMatrix", inPlace := ["slices.overlaps[[]int]"], unfollowed := true, recurses := true, apart := false, narrowed := true }
def FnExactInvertMatrixUptoSaid : Prop := fnExactInvertMatrixUptoRow.holds Try.pinned (OpenSpec.upto fnExactInvertMatrixSpec)

/-- 'laws.FnInverses', WHERE WHAT IT READS IS OF BULK AT MOST 1048576: true; the input reads as it did. -/
def fnInversesUptoRow : OpenClaim := { program := "ytninamlcffemoaa", sum := "8108c23196cf7ac1c3c239c4c38949f92b0f6c32878f7d315a7c8f59f236bf24", func := "loop.example/g00513/laws.FnInverses", spec := "fnInverses", inPlace := ["slices.overlaps[[]int]"], unfollowed := true, recurses := true, apart := false, narrowed := true }
def FnInversesUptoSaid : Prop := fnInversesUptoRow.holds Try.pinned (OpenSpec.upto fnInversesSpec)

/-- 'laws.FnElimination', WHERE WHAT IT READS IS OF BULK AT MOST 1048576: true; the input reads as it did. -/
def fnEliminationUptoRow : OpenClaim := { program := "ytninamlcffemoaa", sum := "8108c23196cf7ac1c3c239c4c38949f92b0f6c32878f7d315a7c8f59f236bf24", func := "loop.example/g00513/laws.FnElimination", spec := "fnElimination", inPlace := ["slices.overlaps[[]int]"], unfollowed := true, recurses := true, apart := false, narrowed := true }
def FnEliminationUptoSaid : Prop := fnEliminationUptoRow.holds Try.pinned (OpenSpec.upto fnEliminationSpec)

/-- 'laws.FnSystems', WHERE WHAT IT READS IS OF BULK AT MOST 1048576: true; the input reads as it did. -/
def fnSystemsUptoRow : OpenClaim := { program := "ytninamlcffemoaa", sum := "8108c23196cf7ac1c3c239c4c38949f92b0f6c32878f7d315a7c8f59f236bf24", func := "loop.example/g00513/laws.FnSystems", spec := "fnSystems", inPlace := ["slices.overlaps[[]int]"], unfollowed := true, recurses := true, apart := false, narrowed := true }
def FnSystemsUptoSaid : Prop := fnSystemsUptoRow.holds Try.pinned (OpenSpec.upto fnSystemsSpec)

/-- 'laws.FnOrthogonality', WHERE WHAT IT READS IS OF BULK AT MOST 1048576: true; the input reads as it did. -/
def fnOrthogonalityUptoRow : OpenClaim := { program := "ytninamlcffemoaa", sum := "8108c23196cf7ac1c3c239c4c38949f92b0f6c32878f7d315a7c8f59f236bf24", func := "loop.example/g00513/laws.FnOrthogonality", spec := "fnOrthogonality", inPlace := ["slices.overlaps[[]int]"], unfollowed := true, recurses := true, apart := false, narrowed := true }
def FnOrthogonalityUptoSaid : Prop := fnOrthogonalityUptoRow.holds Try.pinned (OpenSpec.upto fnOrthogonalitySpec)

/-- 'laws.FnCoordinates', WHERE WHAT IT READS IS OF BULK AT MOST 1048576: true; the input reads as it did. -/
def fnCoordinatesUptoRow : OpenClaim := { program := "ytninamlcffemoaa", sum := "8108c23196cf7ac1c3c239c4c38949f92b0f6c32878f7d315a7c8f59f236bf24", func := "loop.example/g00513/laws.FnCoordinates", spec := "fnCoordinates", inPlace := ["slices.overlaps[[]int]"], unfollowed := true, recurses := true, apart := false, narrowed := true }
def FnCoordinatesUptoSaid : Prop := fnCoordinatesUptoRow.holds Try.pinned (OpenSpec.upto fnCoordinatesSpec)

/-- 'laws.FnExactShuffle', WHERE WHAT IT READS IS OF BULK AT MOST 1048576: true; the input reads as it did. -/
def fnExactShuffleUptoRow : OpenClaim := { program := "ytninamlcffemoaa", sum := "8108c23196cf7ac1c3c239c4c38949f92b0f6c32878f7d315a7c8f59f236bf24", func := "loop.example/g00513/laws.FnExactShuffle", spec := "fnExactShuffle", apart := false, narrowed := true }
def FnExactShuffleUptoSaid : Prop := fnExactShuffleUptoRow.holds Try.pinned (OpenSpec.upto fnExactShuffleSpec)

/-- 'laws.FnExactRandomSubset', WHERE WHAT IT READS IS OF BULK AT MOST 1048576: true; the input reads as it did. -/
def fnExactRandomSubsetUptoRow : OpenClaim := { program := "ytninamlcffemoaa", sum := "8108c23196cf7ac1c3c239c4c38949f92b0f6c32878f7d315a7c8f59f236bf24", func := "loop.example/g00513/laws.FnExactRandomSubset", spec := "fnExactRandomSubset", recurses := true, apart := false, narrowed := true }
def FnExactRandomSubsetUptoSaid : Prop := fnExactRandomSubsetUptoRow.holds Try.pinned (OpenSpec.upto fnExactRandomSubsetSpec)

/-- 'laws.FnExactSparseVector', WHERE WHAT IT READS IS OF BULK AT MOST 1048576: true; the input reads as it did. -/
def fnExactSparseVectorUptoRow : OpenClaim := { program := "ytninamlcffemoaa", sum := "8108c23196cf7ac1c3c239c4c38949f92b0f6c32878f7d315a7c8f59f236bf24", func := "loop.example/g00513/laws.FnExactSparseVector", spec := "fnExactSparseVector", recurses := true, apart := false, narrowed := true }
def FnExactSparseVectorUptoSaid : Prop := fnExactSparseVectorUptoRow.holds Try.pinned (OpenSpec.upto fnExactSparseVectorSpec)

/-- 'laws.FnRandomChoices', WHERE WHAT IT READS IS OF BULK AT MOST 1048576: true; the input reads as it did. -/
def fnRandomChoicesUptoRow : OpenClaim := { program := "ytninamlcffemoaa", sum := "8108c23196cf7ac1c3c239c4c38949f92b0f6c32878f7d315a7c8f59f236bf24", func := "loop.example/g00513/laws.FnRandomChoices", spec := "fnRandomChoices", inPlace := ["slices.overlaps[[]int]"], unfollowed := true, recurses := true, apart := false, narrowed := true }
def FnRandomChoicesUptoSaid : Prop := fnRandomChoicesUptoRow.holds Try.pinned (OpenSpec.upto fnRandomChoicesSpec)

end Rows
end Go.Proofs.Ytninamlcffemoaa
