/-
  No cell of these rows narrows 'for every input' (looked for: loops, veiled, ifaces, maps, wideKeys, modest, calm, conditions, laid).
  DERIVED. THE GIVEN ROWS OF THIS SEAT. 12 by the template 'for every input the law returns true; each argument reads behind the call as it read before'; 0 by the template 'total and deterministic' (their statements: YtcdfkkmbefjaaaaTotals.lean).
  GIVEN WITH THE SEED: the statements are not yours to turn. If you find one false, say at which input.
  Laid BY PROGRAM, IN A SANDBOX (cutbox-rows.mjs): the forced cells as the released guide's own fill.sh prints them over the translation 34629bbd5eebf33b… (all of the seat's roots in one cut). By AI agents, Wed Nov 11 2026. No macro, syntax, notation, axiom, sorry.
-/
import Derived.Test.YtcdfkkmbefjaaaaChecked
import GoSem.Claim
import GoSem.ClaimJoined
import GoSem.ClaimMapViews
import Derived.JoinedTies
import Derived.KernelRfl
namespace Go.Proofs.Ytcdfkkmbefjaaaa
/- THE CELL 'sum', in the pinned program and in every row, IS THE sha256 OF THE DUMP (.gsa) THAT YtcdfkkmbefjaaaaProg.lean LOADS. Nothing in Lean hashes anything: it is a label: what it is worth is what the hold of that sum in a sandbox is worth. -/
noncomputable def Try.pinned : Pinned := { name := "ytcdfkkmbefjaaaa", sum := "34629bbd5eebf33b9b511f546bc49693627d8e5d20a60cee6b6207e912d3860a", checked := Try.checked }
namespace Rows
def none {H : Type} : Left H := { results := [], args := [] }

/-- 'laws.FnExactCountNonzero': WHATEVER THE INPUT: true; the input reads as it did. -/
def fnExactCountNonzeroSpec : ChangeSpec := { name := "fnExactCountNonzero", fn := fun _ => fun
  | [d] => { results := [.lit (.bool true)], args := [d] }
  | _ => none }
def fnExactCountNonzeroRow : OpenClaim := { program := "ytcdfkkmbefjaaaa", sum := "34629bbd5eebf33b9b511f546bc49693627d8e5d20a60cee6b6207e912d3860a", func := "loop.example/g00513/laws.FnExactCountNonzero", spec := "fnExactCountNonzero", apart := false }
def FnExactCountNonzeroSaid : Prop := fnExactCountNonzeroRow.holds Try.pinned (OpenSpec.ofChange fnExactCountNonzeroSpec)

/-- ITS FALSE NEIGHBOUR: 'it returns false'. Refute it at one input. -/
def fnExactCountNonzeroWrong : ChangeSpec := { name := "fnExactCountNonzero", fn := fun _ => fun
  | [d] => { results := [.lit (.bool false)], args := [d] }
  | _ => none }
def FnExactCountNonzeroWrongFalsely : Prop := fnExactCountNonzeroRow.holds Try.pinned (OpenSpec.ofChange fnExactCountNonzeroWrong)

/-- 'laws.FnExactDensityPercent': WHATEVER THE INPUT: true; the input reads as it did. -/
def fnExactDensityPercentSpec : ChangeSpec := { name := "fnExactDensityPercent", fn := fun _ => fun
  | [d] => { results := [.lit (.bool true)], args := [d] }
  | _ => none }
def fnExactDensityPercentRow : OpenClaim := { program := "ytcdfkkmbefjaaaa", sum := "34629bbd5eebf33b9b511f546bc49693627d8e5d20a60cee6b6207e912d3860a", func := "loop.example/g00513/laws.FnExactDensityPercent", spec := "fnExactDensityPercent", apart := false }
def FnExactDensityPercentSaid : Prop := fnExactDensityPercentRow.holds Try.pinned (OpenSpec.ofChange fnExactDensityPercentSpec)

/-- ITS FALSE NEIGHBOUR: 'it returns false'. Refute it at one input. -/
def fnExactDensityPercentWrong : ChangeSpec := { name := "fnExactDensityPercent", fn := fun _ => fun
  | [d] => { results := [.lit (.bool false)], args := [d] }
  | _ => none }
def FnExactDensityPercentWrongFalsely : Prop := fnExactDensityPercentRow.holds Try.pinned (OpenSpec.ofChange fnExactDensityPercentWrong)

/-- 'laws.FnExactRandomNumber': WHATEVER THE INPUT: true; the input reads as it did. -/
def fnExactRandomNumberSpec : ChangeSpec := { name := "fnExactRandomNumber", fn := fun _ => fun
  | [d1, d2, d3] => { results := [.lit (.bool true)], args := [d1, d2, d3] }
  | _ => none }
def fnExactRandomNumberRow : OpenClaim := { program := "ytcdfkkmbefjaaaa", sum := "34629bbd5eebf33b9b511f546bc49693627d8e5d20a60cee6b6207e912d3860a", func := "loop.example/g00513/laws.FnExactRandomNumber", spec := "fnExactRandomNumber", apart := false }
def FnExactRandomNumberSaid : Prop := fnExactRandomNumberRow.holds Try.pinned (OpenSpec.ofChange fnExactRandomNumberSpec)

/-- ITS FALSE NEIGHBOUR: 'it returns false'. Refute it at one input. -/
def fnExactRandomNumberWrong : ChangeSpec := { name := "fnExactRandomNumber", fn := fun _ => fun
  | [d1, d2, d3] => { results := [.lit (.bool false)], args := [d1, d2, d3] }
  | _ => none }
def FnExactRandomNumberWrongFalsely : Prop := fnExactRandomNumberRow.holds Try.pinned (OpenSpec.ofChange fnExactRandomNumberWrong)

/-- 'laws.FnExactIsZeroPacket': WHATEVER THE INPUT: true; the input reads as it did. -/
def fnExactIsZeroPacketSpec : ChangeSpec := { name := "fnExactIsZeroPacket", fn := fun _ => fun
  | [d] => { results := [.lit (.bool true)], args := [d] }
  | _ => none }
def fnExactIsZeroPacketRow : OpenClaim := { program := "ytcdfkkmbefjaaaa", sum := "34629bbd5eebf33b9b511f546bc49693627d8e5d20a60cee6b6207e912d3860a", func := "loop.example/g00513/laws.FnExactIsZeroPacket", spec := "fnExactIsZeroPacket", unfollowed := true, recurses := true, apart := false }
def FnExactIsZeroPacketSaid : Prop := fnExactIsZeroPacketRow.holds Try.pinned (OpenSpec.ofChange fnExactIsZeroPacketSpec)

/-- ITS FALSE NEIGHBOUR: 'it returns false'. Refute it at one input. -/
def fnExactIsZeroPacketWrong : ChangeSpec := { name := "fnExactIsZeroPacket", fn := fun _ => fun
  | [d] => { results := [.lit (.bool false)], args := [d] }
  | _ => none }
def FnExactIsZeroPacketWrongFalsely : Prop := fnExactIsZeroPacketRow.holds Try.pinned (OpenSpec.ofChange fnExactIsZeroPacketWrong)

/-- 'laws.FnExactGenerationSize': WHATEVER THE INPUT: true; the input reads as it did. -/
def fnExactGenerationSizeSpec : ChangeSpec := { name := "fnExactGenerationSize", fn := fun _ => fun
  | [d] => { results := [.lit (.bool true)], args := [d] }
  | _ => none }
def fnExactGenerationSizeRow : OpenClaim := { program := "ytcdfkkmbefjaaaa", sum := "34629bbd5eebf33b9b511f546bc49693627d8e5d20a60cee6b6207e912d3860a", func := "loop.example/g00513/laws.FnExactGenerationSize", spec := "fnExactGenerationSize", apart := false }
def FnExactGenerationSizeSaid : Prop := fnExactGenerationSizeRow.holds Try.pinned (OpenSpec.ofChange fnExactGenerationSizeSpec)

/-- ITS FALSE NEIGHBOUR: 'it returns false'. Refute it at one input. -/
def fnExactGenerationSizeWrong : ChangeSpec := { name := "fnExactGenerationSize", fn := fun _ => fun
  | [d] => { results := [.lit (.bool false)], args := [d] }
  | _ => none }
def FnExactGenerationSizeWrongFalsely : Prop := fnExactGenerationSizeRow.holds Try.pinned (OpenSpec.ofChange fnExactGenerationSizeWrong)

/-- 'laws.FnExactEqualPackets': WHATEVER THE INPUT: true; the input reads as it did. -/
def fnExactEqualPacketsSpec : ChangeSpec := { name := "fnExactEqualPackets", fn := fun _ => fun
  | [d1, d2] => { results := [.lit (.bool true)], args := [d1, d2] }
  | _ => none }
def fnExactEqualPacketsRow : OpenClaim := { program := "ytcdfkkmbefjaaaa", sum := "34629bbd5eebf33b9b511f546bc49693627d8e5d20a60cee6b6207e912d3860a", func := "loop.example/g00513/laws.FnExactEqualPackets", spec := "fnExactEqualPackets", apart := false }
def FnExactEqualPacketsSaid : Prop := fnExactEqualPacketsRow.holds Try.pinned (OpenSpec.ofChange fnExactEqualPacketsSpec)

/-- ITS FALSE NEIGHBOUR: 'it returns false'. Refute it at one input. -/
def fnExactEqualPacketsWrong : ChangeSpec := { name := "fnExactEqualPackets", fn := fun _ => fun
  | [d1, d2] => { results := [.lit (.bool false)], args := [d1, d2] }
  | _ => none }
def FnExactEqualPacketsWrongFalsely : Prop := fnExactEqualPacketsRow.holds Try.pinned (OpenSpec.ofChange fnExactEqualPacketsWrong)

/-- 'laws.FnExactIsValidPacket': WHATEVER THE INPUT: true; the input reads as it did. -/
def fnExactIsValidPacketSpec : ChangeSpec := { name := "fnExactIsValidPacket", fn := fun _ => fun
  | [d1, d2, d3] => { results := [.lit (.bool true)], args := [d1, d2, d3] }
  | _ => none }
def fnExactIsValidPacketRow : OpenClaim := { program := "ytcdfkkmbefjaaaa", sum := "34629bbd5eebf33b9b511f546bc49693627d8e5d20a60cee6b6207e912d3860a", func := "loop.example/g00513/laws.FnExactIsValidPacket", spec := "fnExactIsValidPacket", apart := false }
def FnExactIsValidPacketSaid : Prop := fnExactIsValidPacketRow.holds Try.pinned (OpenSpec.ofChange fnExactIsValidPacketSpec)

/-- ITS FALSE NEIGHBOUR: 'it returns false'. Refute it at one input. -/
def fnExactIsValidPacketWrong : ChangeSpec := { name := "fnExactIsValidPacket", fn := fun _ => fun
  | [d1, d2, d3] => { results := [.lit (.bool false)], args := [d1, d2, d3] }
  | _ => none }
def FnExactIsValidPacketWrongFalsely : Prop := fnExactIsValidPacketRow.holds Try.pinned (OpenSpec.ofChange fnExactIsValidPacketWrong)

/-- 'laws.FnExactNewBasis': WHATEVER THE INPUT: true; the input reads as it did. -/
def fnExactNewBasisSpec : ChangeSpec := { name := "fnExactNewBasis", fn := fun _ => fun
  | [d] => { results := [.lit (.bool true)], args := [d] }
  | _ => none }
def fnExactNewBasisRow : OpenClaim := { program := "ytcdfkkmbefjaaaa", sum := "34629bbd5eebf33b9b511f546bc49693627d8e5d20a60cee6b6207e912d3860a", func := "loop.example/g00513/laws.FnExactNewBasis", spec := "fnExactNewBasis", apart := false }
def FnExactNewBasisSaid : Prop := fnExactNewBasisRow.holds Try.pinned (OpenSpec.ofChange fnExactNewBasisSpec)

/-- ITS FALSE NEIGHBOUR: 'it returns false'. Refute it at one input. -/
def fnExactNewBasisWrong : ChangeSpec := { name := "fnExactNewBasis", fn := fun _ => fun
  | [d] => { results := [.lit (.bool false)], args := [d] }
  | _ => none }
def FnExactNewBasisWrongFalsely : Prop := fnExactNewBasisRow.holds Try.pinned (OpenSpec.ofChange fnExactNewBasisWrong)

/-- 'laws.FnExactSymbolWidth': WHATEVER THE INPUT: true; the input reads as it did. -/
def fnExactSymbolWidthSpec : ChangeSpec := { name := "fnExactSymbolWidth", fn := fun _ => fun
  | [d] => { results := [.lit (.bool true)], args := [d] }
  | _ => none }
def fnExactSymbolWidthRow : OpenClaim := { program := "ytcdfkkmbefjaaaa", sum := "34629bbd5eebf33b9b511f546bc49693627d8e5d20a60cee6b6207e912d3860a", func := "loop.example/g00513/laws.FnExactSymbolWidth", spec := "fnExactSymbolWidth", apart := false }
def FnExactSymbolWidthSaid : Prop := fnExactSymbolWidthRow.holds Try.pinned (OpenSpec.ofChange fnExactSymbolWidthSpec)

/-- ITS FALSE NEIGHBOUR: 'it returns false'. Refute it at one input. -/
def fnExactSymbolWidthWrong : ChangeSpec := { name := "fnExactSymbolWidth", fn := fun _ => fun
  | [d] => { results := [.lit (.bool false)], args := [d] }
  | _ => none }
def FnExactSymbolWidthWrongFalsely : Prop := fnExactSymbolWidthRow.holds Try.pinned (OpenSpec.ofChange fnExactSymbolWidthWrong)

/-- 'laws.FnExactEqualBases': WHATEVER THE INPUT: true; the input reads as it did. -/
def fnExactEqualBasesSpec : ChangeSpec := { name := "fnExactEqualBases", fn := fun _ => fun
  | [d1, d2] => { results := [.lit (.bool true)], args := [d1, d2] }
  | _ => none }
def fnExactEqualBasesRow : OpenClaim := { program := "ytcdfkkmbefjaaaa", sum := "34629bbd5eebf33b9b511f546bc49693627d8e5d20a60cee6b6207e912d3860a", func := "loop.example/g00513/laws.FnExactEqualBases", spec := "fnExactEqualBases", unfollowed := true, recurses := true, apart := false }
def FnExactEqualBasesSaid : Prop := fnExactEqualBasesRow.holds Try.pinned (OpenSpec.ofChange fnExactEqualBasesSpec)

/-- ITS FALSE NEIGHBOUR: 'it returns false'. Refute it at one input. -/
def fnExactEqualBasesWrong : ChangeSpec := { name := "fnExactEqualBases", fn := fun _ => fun
  | [d1, d2] => { results := [.lit (.bool false)], args := [d1, d2] }
  | _ => none }
def FnExactEqualBasesWrongFalsely : Prop := fnExactEqualBasesRow.holds Try.pinned (OpenSpec.ofChange fnExactEqualBasesWrong)

/-- 'laws.FnExactEqualGenerations': WHATEVER THE INPUT: true; the input reads as it did. -/
def fnExactEqualGenerationsSpec : ChangeSpec := { name := "fnExactEqualGenerations", fn := fun _ => fun
  | [d1, d2] => { results := [.lit (.bool true)], args := [d1, d2] }
  | _ => none }
def fnExactEqualGenerationsRow : OpenClaim := { program := "ytcdfkkmbefjaaaa", sum := "34629bbd5eebf33b9b511f546bc49693627d8e5d20a60cee6b6207e912d3860a", func := "loop.example/g00513/laws.FnExactEqualGenerations", spec := "fnExactEqualGenerations", unfollowed := true, recurses := true, apart := false }
def FnExactEqualGenerationsSaid : Prop := fnExactEqualGenerationsRow.holds Try.pinned (OpenSpec.ofChange fnExactEqualGenerationsSpec)

/-- ITS FALSE NEIGHBOUR: 'it returns false'. Refute it at one input. -/
def fnExactEqualGenerationsWrong : ChangeSpec := { name := "fnExactEqualGenerations", fn := fun _ => fun
  | [d1, d2] => { results := [.lit (.bool false)], args := [d1, d2] }
  | _ => none }
def FnExactEqualGenerationsWrongFalsely : Prop := fnExactEqualGenerationsRow.holds Try.pinned (OpenSpec.ofChange fnExactEqualGenerationsWrong)

/-- 'laws.FnExactNewDecoder': WHATEVER THE INPUT: true; the input reads as it did. -/
def fnExactNewDecoderSpec : ChangeSpec := { name := "fnExactNewDecoder", fn := fun _ => fun
  | [d1, d2, d3] => { results := [.lit (.bool true)], args := [d1, d2, d3] }
  | _ => none }
def fnExactNewDecoderRow : OpenClaim := { program := "ytcdfkkmbefjaaaa", sum := "34629bbd5eebf33b9b511f546bc49693627d8e5d20a60cee6b6207e912d3860a", func := "loop.example/g00513/laws.FnExactNewDecoder", spec := "fnExactNewDecoder", apart := false }
def FnExactNewDecoderSaid : Prop := fnExactNewDecoderRow.holds Try.pinned (OpenSpec.ofChange fnExactNewDecoderSpec)

/-- ITS FALSE NEIGHBOUR: 'it returns false'. Refute it at one input. -/
def fnExactNewDecoderWrong : ChangeSpec := { name := "fnExactNewDecoder", fn := fun _ => fun
  | [d1, d2, d3] => { results := [.lit (.bool false)], args := [d1, d2, d3] }
  | _ => none }
def FnExactNewDecoderWrongFalsely : Prop := fnExactNewDecoderRow.holds Try.pinned (OpenSpec.ofChange fnExactNewDecoderWrong)

/- THE SECOND FORM. 'bulk': how many values and letters a reading holds, each counted each time it is reached (what is shared counts as often as it is met; a slice's spare places count too). A statement '..UptoSaid' is the law's where the arguments, and the package variables that the reading takes, are together of bulk at most 1048576: NARROWER than '..Said'. Prove '..Said' where nothing that the law and all that it calls make is longer than what came in: it says more and counts as full. Else prove '..UptoSaid'. A law counts once. -/
mutual
def uptoBulk {H : Type} : DataW H → Nat
  | .lit (.string bytes) => bytes.length + 1
  | .lit _ => 1
  | .nil => 1
  | .ptr d => uptoBulk d + 1
  | .slice elems spare => uptoBulkAll elems + uptoBulkAll spare + 1
  | .agg parts => uptoBulkAll parts + 1
  | .iface _ d => uptoBulk d + 1
  | .map entries => uptoBulkEntries entries + 1
  | .held _ => 1
def uptoBulkAll {H : Type} : List (DataW H) → Nat
  | [] => 0
  | d :: r => uptoBulk d + uptoBulkAll r
def uptoBulkEntries {H : Type} : List (Lit × DataW H) → Nat
  | [] => 0
  | x :: r => uptoBulkEntry x + uptoBulkEntries r
def uptoBulkEntry {H : Type} : Lit × DataW H → Nat
  | (.string bytes, d) => bytes.length + uptoBulk d + 1
  | (_, d) => uptoBulk d + 1
 end
def uptoSmall : (H : Type) → List (DataW H) → Bool := fun _ ds => decide (uptoBulkAll ds ≤ 1048576)
def OpenSpec.upto (s : _root_.Go.ChangeSpec) : _root_.Go.OpenSpec := { _root_.Go.OpenSpec.ofChange s with cond := some uptoSmall }

/-- 'laws.FnExactCountNonzero', WHERE WHAT IT READS IS OF BULK AT MOST 1048576: true; the input reads as it did. -/
def fnExactCountNonzeroUptoRow : OpenClaim := { program := "ytcdfkkmbefjaaaa", sum := "34629bbd5eebf33b9b511f546bc49693627d8e5d20a60cee6b6207e912d3860a", func := "loop.example/g00513/laws.FnExactCountNonzero", spec := "fnExactCountNonzero", apart := false, narrowed := true }
def FnExactCountNonzeroUptoSaid : Prop := fnExactCountNonzeroUptoRow.holds Try.pinned (OpenSpec.upto fnExactCountNonzeroSpec)

/-- 'laws.FnExactDensityPercent', WHERE WHAT IT READS IS OF BULK AT MOST 1048576: true; the input reads as it did. -/
def fnExactDensityPercentUptoRow : OpenClaim := { program := "ytcdfkkmbefjaaaa", sum := "34629bbd5eebf33b9b511f546bc49693627d8e5d20a60cee6b6207e912d3860a", func := "loop.example/g00513/laws.FnExactDensityPercent", spec := "fnExactDensityPercent", apart := false, narrowed := true }
def FnExactDensityPercentUptoSaid : Prop := fnExactDensityPercentUptoRow.holds Try.pinned (OpenSpec.upto fnExactDensityPercentSpec)

/-- 'laws.FnExactRandomNumber', WHERE WHAT IT READS IS OF BULK AT MOST 1048576: true; the input reads as it did. -/
def fnExactRandomNumberUptoRow : OpenClaim := { program := "ytcdfkkmbefjaaaa", sum := "34629bbd5eebf33b9b511f546bc49693627d8e5d20a60cee6b6207e912d3860a", func := "loop.example/g00513/laws.FnExactRandomNumber", spec := "fnExactRandomNumber", apart := false, narrowed := true }
def FnExactRandomNumberUptoSaid : Prop := fnExactRandomNumberUptoRow.holds Try.pinned (OpenSpec.upto fnExactRandomNumberSpec)

/-- 'laws.FnExactIsZeroPacket', WHERE WHAT IT READS IS OF BULK AT MOST 1048576: true; the input reads as it did. -/
def fnExactIsZeroPacketUptoRow : OpenClaim := { program := "ytcdfkkmbefjaaaa", sum := "34629bbd5eebf33b9b511f546bc49693627d8e5d20a60cee6b6207e912d3860a", func := "loop.example/g00513/laws.FnExactIsZeroPacket", spec := "fnExactIsZeroPacket", unfollowed := true, recurses := true, apart := false, narrowed := true }
def FnExactIsZeroPacketUptoSaid : Prop := fnExactIsZeroPacketUptoRow.holds Try.pinned (OpenSpec.upto fnExactIsZeroPacketSpec)

/-- 'laws.FnExactGenerationSize', WHERE WHAT IT READS IS OF BULK AT MOST 1048576: true; the input reads as it did. -/
def fnExactGenerationSizeUptoRow : OpenClaim := { program := "ytcdfkkmbefjaaaa", sum := "34629bbd5eebf33b9b511f546bc49693627d8e5d20a60cee6b6207e912d3860a", func := "loop.example/g00513/laws.FnExactGenerationSize", spec := "fnExactGenerationSize", apart := false, narrowed := true }
def FnExactGenerationSizeUptoSaid : Prop := fnExactGenerationSizeUptoRow.holds Try.pinned (OpenSpec.upto fnExactGenerationSizeSpec)

/-- 'laws.FnExactEqualPackets', WHERE WHAT IT READS IS OF BULK AT MOST 1048576: true; the input reads as it did. -/
def fnExactEqualPacketsUptoRow : OpenClaim := { program := "ytcdfkkmbefjaaaa", sum := "34629bbd5eebf33b9b511f546bc49693627d8e5d20a60cee6b6207e912d3860a", func := "loop.example/g00513/laws.FnExactEqualPackets", spec := "fnExactEqualPackets", apart := false, narrowed := true }
def FnExactEqualPacketsUptoSaid : Prop := fnExactEqualPacketsUptoRow.holds Try.pinned (OpenSpec.upto fnExactEqualPacketsSpec)

/-- 'laws.FnExactIsValidPacket', WHERE WHAT IT READS IS OF BULK AT MOST 1048576: true; the input reads as it did. -/
def fnExactIsValidPacketUptoRow : OpenClaim := { program := "ytcdfkkmbefjaaaa", sum := "34629bbd5eebf33b9b511f546bc49693627d8e5d20a60cee6b6207e912d3860a", func := "loop.example/g00513/laws.FnExactIsValidPacket", spec := "fnExactIsValidPacket", apart := false, narrowed := true }
def FnExactIsValidPacketUptoSaid : Prop := fnExactIsValidPacketUptoRow.holds Try.pinned (OpenSpec.upto fnExactIsValidPacketSpec)

/-- 'laws.FnExactNewBasis', WHERE WHAT IT READS IS OF BULK AT MOST 1048576: true; the input reads as it did. -/
def fnExactNewBasisUptoRow : OpenClaim := { program := "ytcdfkkmbefjaaaa", sum := "34629bbd5eebf33b9b511f546bc49693627d8e5d20a60cee6b6207e912d3860a", func := "loop.example/g00513/laws.FnExactNewBasis", spec := "fnExactNewBasis", apart := false, narrowed := true }
def FnExactNewBasisUptoSaid : Prop := fnExactNewBasisUptoRow.holds Try.pinned (OpenSpec.upto fnExactNewBasisSpec)

/-- 'laws.FnExactSymbolWidth', WHERE WHAT IT READS IS OF BULK AT MOST 1048576: true; the input reads as it did. -/
def fnExactSymbolWidthUptoRow : OpenClaim := { program := "ytcdfkkmbefjaaaa", sum := "34629bbd5eebf33b9b511f546bc49693627d8e5d20a60cee6b6207e912d3860a", func := "loop.example/g00513/laws.FnExactSymbolWidth", spec := "fnExactSymbolWidth", apart := false, narrowed := true }
def FnExactSymbolWidthUptoSaid : Prop := fnExactSymbolWidthUptoRow.holds Try.pinned (OpenSpec.upto fnExactSymbolWidthSpec)

/-- 'laws.FnExactEqualBases', WHERE WHAT IT READS IS OF BULK AT MOST 1048576: true; the input reads as it did. -/
def fnExactEqualBasesUptoRow : OpenClaim := { program := "ytcdfkkmbefjaaaa", sum := "34629bbd5eebf33b9b511f546bc49693627d8e5d20a60cee6b6207e912d3860a", func := "loop.example/g00513/laws.FnExactEqualBases", spec := "fnExactEqualBases", unfollowed := true, recurses := true, apart := false, narrowed := true }
def FnExactEqualBasesUptoSaid : Prop := fnExactEqualBasesUptoRow.holds Try.pinned (OpenSpec.upto fnExactEqualBasesSpec)

/-- 'laws.FnExactEqualGenerations', WHERE WHAT IT READS IS OF BULK AT MOST 1048576: true; the input reads as it did. -/
def fnExactEqualGenerationsUptoRow : OpenClaim := { program := "ytcdfkkmbefjaaaa", sum := "34629bbd5eebf33b9b511f546bc49693627d8e5d20a60cee6b6207e912d3860a", func := "loop.example/g00513/laws.FnExactEqualGenerations", spec := "fnExactEqualGenerations", unfollowed := true, recurses := true, apart := false, narrowed := true }
def FnExactEqualGenerationsUptoSaid : Prop := fnExactEqualGenerationsUptoRow.holds Try.pinned (OpenSpec.upto fnExactEqualGenerationsSpec)

/-- 'laws.FnExactNewDecoder', WHERE WHAT IT READS IS OF BULK AT MOST 1048576: true; the input reads as it did. -/
def fnExactNewDecoderUptoRow : OpenClaim := { program := "ytcdfkkmbefjaaaa", sum := "34629bbd5eebf33b9b511f546bc49693627d8e5d20a60cee6b6207e912d3860a", func := "loop.example/g00513/laws.FnExactNewDecoder", spec := "fnExactNewDecoder", apart := false, narrowed := true }
def FnExactNewDecoderUptoSaid : Prop := fnExactNewDecoderUptoRow.holds Try.pinned (OpenSpec.upto fnExactNewDecoderSpec)

end Rows
end Go.Proofs.Ytcdfkkmbefjaaaa
