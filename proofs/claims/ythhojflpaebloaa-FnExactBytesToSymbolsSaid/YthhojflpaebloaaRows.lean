/-
  No cell of these rows narrows 'for every input' (looked for: loops, veiled, ifaces, maps, wideKeys, modest, calm, conditions, laid).
  DERIVED. THE GIVEN ROWS OF THIS SEAT. 12 by the template 'for every input the law returns true; each argument reads behind the call as it read before'; 0 by the template 'total and deterministic' (their statements: YthhojflpaebloaaTotals.lean).
  GIVEN WITH THE SEED: the statements are not yours to turn. If you find one false, say at which input.
  Laid BY PROGRAM, IN A SANDBOX (cutbox-rows.mjs): the forced cells as the released guide's own fill.sh prints them over the translation a0bf2617ab0ecdee… (all of the seat's roots in one cut). By AI agents, Wed Nov 11 2026. No macro, syntax, notation, axiom, sorry.
-/
import Derived.Test.YthhojflpaebloaaChecked
import GoSem.Claim
import GoSem.ClaimJoined
import GoSem.ClaimMapViews
import Derived.JoinedTies
import Derived.KernelRfl
namespace Go.Proofs.Ythhojflpaebloaa
/- THE CELL 'sum', in the pinned program and in every row, IS THE sha256 OF THE DUMP (.gsa) THAT YthhojflpaebloaaProg.lean LOADS. Nothing in Lean hashes anything: it is a label: what it is worth is what the hold of that sum in a sandbox is worth. -/
noncomputable def Try.pinned : Pinned := { name := "ythhojflpaebloaa", sum := "a0bf2617ab0ecdeec40caaae6887dec48dc4f1d6d465192937b9a54b1667793d", checked := Try.checked }
namespace Rows
def none {H : Type} : Left H := { results := [], args := [] }

/-- 'laws.FnExactIsValidGeneration': WHATEVER THE INPUT: true; the input reads as it did. -/
def fnExactIsValidGenerationSpec : ChangeSpec := { name := "fnExactIsValidGeneration", fn := fun _ => fun
  | [d] => { results := [.lit (.bool true)], args := [d] }
  | _ => none }
def fnExactIsValidGenerationRow : OpenClaim := { program := "ythhojflpaebloaa", sum := "a0bf2617ab0ecdeec40caaae6887dec48dc4f1d6d465192937b9a54b1667793d", func := "loop.example/g00513/laws.FnExactIsValidGeneration", spec := "fnExactIsValidGeneration", apart := false }
def FnExactIsValidGenerationSaid : Prop := fnExactIsValidGenerationRow.holds Try.pinned (OpenSpec.ofChange fnExactIsValidGenerationSpec)

/-- ITS FALSE NEIGHBOUR: 'it returns false'. Refute it at one input. -/
def fnExactIsValidGenerationWrong : ChangeSpec := { name := "fnExactIsValidGeneration", fn := fun _ => fun
  | [d] => { results := [.lit (.bool false)], args := [d] }
  | _ => none }
def FnExactIsValidGenerationWrongFalsely : Prop := fnExactIsValidGenerationRow.holds Try.pinned (OpenSpec.ofChange fnExactIsValidGenerationWrong)

/-- 'laws.FnExactRandomVector': WHATEVER THE INPUT: true; the input reads as it did. -/
def fnExactRandomVectorSpec : ChangeSpec := { name := "fnExactRandomVector", fn := fun _ => fun
  | [d1, d2] => { results := [.lit (.bool true)], args := [d1, d2] }
  | _ => none }
def fnExactRandomVectorRow : OpenClaim := { program := "ythhojflpaebloaa", sum := "a0bf2617ab0ecdeec40caaae6887dec48dc4f1d6d465192937b9a54b1667793d", func := "loop.example/g00513/laws.FnExactRandomVector", spec := "fnExactRandomVector", unfollowed := true, recurses := true, apart := false }
def FnExactRandomVectorSaid : Prop := fnExactRandomVectorRow.holds Try.pinned (OpenSpec.ofChange fnExactRandomVectorSpec)

/-- ITS FALSE NEIGHBOUR: 'it returns false'. Refute it at one input. -/
def fnExactRandomVectorWrong : ChangeSpec := { name := "fnExactRandomVector", fn := fun _ => fun
  | [d1, d2] => { results := [.lit (.bool false)], args := [d1, d2] }
  | _ => none }
def FnExactRandomVectorWrongFalsely : Prop := fnExactRandomVectorRow.holds Try.pinned (OpenSpec.ofChange fnExactRandomVectorWrong)

/-- 'laws.FnExactShuffle': WHATEVER THE INPUT: true; the input reads as it did. -/
def fnExactShuffleSpec : ChangeSpec := { name := "fnExactShuffle", fn := fun _ => fun
  | [d1, d2] => { results := [.lit (.bool true)], args := [d1, d2] }
  | _ => none }
def fnExactShuffleRow : OpenClaim := { program := "ythhojflpaebloaa", sum := "a0bf2617ab0ecdeec40caaae6887dec48dc4f1d6d465192937b9a54b1667793d", func := "loop.example/g00513/laws.FnExactShuffle", spec := "fnExactShuffle", apart := false }
def FnExactShuffleSaid : Prop := fnExactShuffleRow.holds Try.pinned (OpenSpec.ofChange fnExactShuffleSpec)

/-- ITS FALSE NEIGHBOUR: 'it returns false'. Refute it at one input. -/
def fnExactShuffleWrong : ChangeSpec := { name := "fnExactShuffle", fn := fun _ => fun
  | [d1, d2] => { results := [.lit (.bool false)], args := [d1, d2] }
  | _ => none }
def FnExactShuffleWrongFalsely : Prop := fnExactShuffleRow.holds Try.pinned (OpenSpec.ofChange fnExactShuffleWrong)

/-- 'laws.FnExactBytesToSymbols': WHATEVER THE INPUT: true; the input reads as it did. -/
def fnExactBytesToSymbolsSpec : ChangeSpec := { name := "fnExactBytesToSymbols", fn := fun _ => fun
  | [d1, d2] => { results := [.lit (.bool true)], args := [d1, d2] }
  | _ => none }
def fnExactBytesToSymbolsRow : OpenClaim := { program := "ythhojflpaebloaa", sum := "a0bf2617ab0ecdeec40caaae6887dec48dc4f1d6d465192937b9a54b1667793d", func := "loop.example/g00513/laws.FnExactBytesToSymbols", spec := "fnExactBytesToSymbols", apart := false }
def FnExactBytesToSymbolsSaid : Prop := fnExactBytesToSymbolsRow.holds Try.pinned (OpenSpec.ofChange fnExactBytesToSymbolsSpec)

/-- ITS FALSE NEIGHBOUR: 'it returns false'. Refute it at one input. -/
def fnExactBytesToSymbolsWrong : ChangeSpec := { name := "fnExactBytesToSymbols", fn := fun _ => fun
  | [d1, d2] => { results := [.lit (.bool false)], args := [d1, d2] }
  | _ => none }
def FnExactBytesToSymbolsWrongFalsely : Prop := fnExactBytesToSymbolsRow.holds Try.pinned (OpenSpec.ofChange fnExactBytesToSymbolsWrong)

/-- 'laws.FnExactEncodeDense': WHATEVER THE INPUT: true; the input reads as it did. -/
def fnExactEncodeDenseSpec : ChangeSpec := { name := "fnExactEncodeDense", fn := fun _ => fun
  | [d] => { results := [.lit (.bool true)], args := [d] }
  | _ => none }
def fnExactEncodeDenseRow : OpenClaim := { program := "ythhojflpaebloaa", sum := "a0bf2617ab0ecdeec40caaae6887dec48dc4f1d6d465192937b9a54b1667793d", func := "loop.example/g00513/laws.FnExactEncodeDense", spec := "fnExactEncodeDense", apart := false }
def FnExactEncodeDenseSaid : Prop := fnExactEncodeDenseRow.holds Try.pinned (OpenSpec.ofChange fnExactEncodeDenseSpec)

/-- ITS FALSE NEIGHBOUR: 'it returns false'. Refute it at one input. -/
def fnExactEncodeDenseWrong : ChangeSpec := { name := "fnExactEncodeDense", fn := fun _ => fun
  | [d] => { results := [.lit (.bool false)], args := [d] }
  | _ => none }
def FnExactEncodeDenseWrongFalsely : Prop := fnExactEncodeDenseRow.holds Try.pinned (OpenSpec.ofChange fnExactEncodeDenseWrong)

/-- 'laws.FnExactEncodeSparse': WHATEVER THE INPUT: true; the input reads as it did. -/
def fnExactEncodeSparseSpec : ChangeSpec := { name := "fnExactEncodeSparse", fn := fun _ => fun
  | [d] => { results := [.lit (.bool true)], args := [d] }
  | _ => none }
def fnExactEncodeSparseRow : OpenClaim := { program := "ythhojflpaebloaa", sum := "a0bf2617ab0ecdeec40caaae6887dec48dc4f1d6d465192937b9a54b1667793d", func := "loop.example/g00513/laws.FnExactEncodeSparse", spec := "fnExactEncodeSparse", apart := false }
def FnExactEncodeSparseSaid : Prop := fnExactEncodeSparseRow.holds Try.pinned (OpenSpec.ofChange fnExactEncodeSparseSpec)

/-- ITS FALSE NEIGHBOUR: 'it returns false'. Refute it at one input. -/
def fnExactEncodeSparseWrong : ChangeSpec := { name := "fnExactEncodeSparse", fn := fun _ => fun
  | [d] => { results := [.lit (.bool false)], args := [d] }
  | _ => none }
def FnExactEncodeSparseWrongFalsely : Prop := fnExactEncodeSparseRow.holds Try.pinned (OpenSpec.ofChange fnExactEncodeSparseWrong)

/-- 'laws.FnExactEncodedSize': WHATEVER THE INPUT: true; the input reads as it did. -/
def fnExactEncodedSizeSpec : ChangeSpec := { name := "fnExactEncodedSize", fn := fun _ => fun
  | [d] => { results := [.lit (.bool true)], args := [d] }
  | _ => none }
def fnExactEncodedSizeRow : OpenClaim := { program := "ythhojflpaebloaa", sum := "a0bf2617ab0ecdeec40caaae6887dec48dc4f1d6d465192937b9a54b1667793d", func := "loop.example/g00513/laws.FnExactEncodedSize", spec := "fnExactEncodedSize", apart := false }
def FnExactEncodedSizeSaid : Prop := fnExactEncodedSizeRow.holds Try.pinned (OpenSpec.ofChange fnExactEncodedSizeSpec)

/-- ITS FALSE NEIGHBOUR: 'it returns false'. Refute it at one input. -/
def fnExactEncodedSizeWrong : ChangeSpec := { name := "fnExactEncodedSize", fn := fun _ => fun
  | [d] => { results := [.lit (.bool false)], args := [d] }
  | _ => none }
def FnExactEncodedSizeWrongFalsely : Prop := fnExactEncodedSizeRow.holds Try.pinned (OpenSpec.ofChange fnExactEncodedSizeWrong)

/-- 'laws.FnExactEncodePacket': WHATEVER THE INPUT: true; the input reads as it did. -/
def fnExactEncodePacketSpec : ChangeSpec := { name := "fnExactEncodePacket", fn := fun _ => fun
  | [d] => { results := [.lit (.bool true)], args := [d] }
  | _ => none }
def fnExactEncodePacketRow : OpenClaim := { program := "ythhojflpaebloaa", sum := "a0bf2617ab0ecdeec40caaae6887dec48dc4f1d6d465192937b9a54b1667793d", func := "loop.example/g00513/laws.FnExactEncodePacket", spec := "fnExactEncodePacket", apart := false }
def FnExactEncodePacketSaid : Prop := fnExactEncodePacketRow.holds Try.pinned (OpenSpec.ofChange fnExactEncodePacketSpec)

/-- ITS FALSE NEIGHBOUR: 'it returns false'. Refute it at one input. -/
def fnExactEncodePacketWrong : ChangeSpec := { name := "fnExactEncodePacket", fn := fun _ => fun
  | [d] => { results := [.lit (.bool false)], args := [d] }
  | _ => none }
def FnExactEncodePacketWrongFalsely : Prop := fnExactEncodePacketRow.holds Try.pinned (OpenSpec.ofChange fnExactEncodePacketWrong)

/-- 'laws.FnExactEncodeCoefficients': WHATEVER THE INPUT: true; the input reads as it did. -/
def fnExactEncodeCoefficientsSpec : ChangeSpec := { name := "fnExactEncodeCoefficients", fn := fun _ => fun
  | [d] => { results := [.lit (.bool true)], args := [d] }
  | _ => none }
def fnExactEncodeCoefficientsRow : OpenClaim := { program := "ythhojflpaebloaa", sum := "a0bf2617ab0ecdeec40caaae6887dec48dc4f1d6d465192937b9a54b1667793d", func := "loop.example/g00513/laws.FnExactEncodeCoefficients", spec := "fnExactEncodeCoefficients", apart := false }
def FnExactEncodeCoefficientsSaid : Prop := fnExactEncodeCoefficientsRow.holds Try.pinned (OpenSpec.ofChange fnExactEncodeCoefficientsSpec)

/-- ITS FALSE NEIGHBOUR: 'it returns false'. Refute it at one input. -/
def fnExactEncodeCoefficientsWrong : ChangeSpec := { name := "fnExactEncodeCoefficients", fn := fun _ => fun
  | [d] => { results := [.lit (.bool false)], args := [d] }
  | _ => none }
def FnExactEncodeCoefficientsWrongFalsely : Prop := fnExactEncodeCoefficientsRow.holds Try.pinned (OpenSpec.ofChange fnExactEncodeCoefficientsWrong)

/-- 'laws.FnExactSplitMessage': WHATEVER THE INPUT: true; the input reads as it did. -/
def fnExactSplitMessageSpec : ChangeSpec := { name := "fnExactSplitMessage", fn := fun _ => fun
  | [d1, d2, d3, d4] => { results := [.lit (.bool true)], args := [d1, d2, d3, d4] }
  | _ => none }
def fnExactSplitMessageRow : OpenClaim := { program := "ythhojflpaebloaa", sum := "a0bf2617ab0ecdeec40caaae6887dec48dc4f1d6d465192937b9a54b1667793d", func := "loop.example/g00513/laws.FnExactSplitMessage", spec := "fnExactSplitMessage", apart := false }
def FnExactSplitMessageSaid : Prop := fnExactSplitMessageRow.holds Try.pinned (OpenSpec.ofChange fnExactSplitMessageSpec)

/-- ITS FALSE NEIGHBOUR: 'it returns false'. Refute it at one input. -/
def fnExactSplitMessageWrong : ChangeSpec := { name := "fnExactSplitMessage", fn := fun _ => fun
  | [d1, d2, d3, d4] => { results := [.lit (.bool false)], args := [d1, d2, d3, d4] }
  | _ => none }
def FnExactSplitMessageWrongFalsely : Prop := fnExactSplitMessageRow.holds Try.pinned (OpenSpec.ofChange fnExactSplitMessageWrong)

/-- 'laws.FnExactCombinePackets': WHATEVER THE INPUT: true; the input reads as it did. -/
def fnExactCombinePacketsSpec : ChangeSpec := { name := "fnExactCombinePackets", fn := fun _ => fun
  | [d1, d2] => { results := [.lit (.bool true)], args := [d1, d2] }
  | _ => none }
def fnExactCombinePacketsRow : OpenClaim := { program := "ythhojflpaebloaa", sum := "a0bf2617ab0ecdeec40caaae6887dec48dc4f1d6d465192937b9a54b1667793d", func := "loop.example/g00513/laws.FnExactCombinePackets", spec := "fnExactCombinePackets", apart := false }
def FnExactCombinePacketsSaid : Prop := fnExactCombinePacketsRow.holds Try.pinned (OpenSpec.ofChange fnExactCombinePacketsSpec)

/-- ITS FALSE NEIGHBOUR: 'it returns false'. Refute it at one input. -/
def fnExactCombinePacketsWrong : ChangeSpec := { name := "fnExactCombinePackets", fn := fun _ => fun
  | [d1, d2] => { results := [.lit (.bool false)], args := [d1, d2] }
  | _ => none }
def FnExactCombinePacketsWrongFalsely : Prop := fnExactCombinePacketsRow.holds Try.pinned (OpenSpec.ofChange fnExactCombinePacketsWrong)

/-- 'laws.FnExactCodePacket': WHATEVER THE INPUT: true; the input reads as it did. -/
def fnExactCodePacketSpec : ChangeSpec := { name := "fnExactCodePacket", fn := fun _ => fun
  | [d1, d2] => { results := [.lit (.bool true)], args := [d1, d2] }
  | _ => none }
def fnExactCodePacketRow : OpenClaim := { program := "ythhojflpaebloaa", sum := "a0bf2617ab0ecdeec40caaae6887dec48dc4f1d6d465192937b9a54b1667793d", func := "loop.example/g00513/laws.FnExactCodePacket", spec := "fnExactCodePacket", apart := false }
def FnExactCodePacketSaid : Prop := fnExactCodePacketRow.holds Try.pinned (OpenSpec.ofChange fnExactCodePacketSpec)

/-- ITS FALSE NEIGHBOUR: 'it returns false'. Refute it at one input. -/
def fnExactCodePacketWrong : ChangeSpec := { name := "fnExactCodePacket", fn := fun _ => fun
  | [d1, d2] => { results := [.lit (.bool false)], args := [d1, d2] }
  | _ => none }
def FnExactCodePacketWrongFalsely : Prop := fnExactCodePacketRow.holds Try.pinned (OpenSpec.ofChange fnExactCodePacketWrong)

/- THE SECOND FORM. 'bulk': how many values and letters a reading holds, each counted each time it is reached (what is shared counts as often as it is met; a slice's spare places count too). A statement '..UptoSaid' is the law's where the arguments, and the package variables that the reading takes, are together of bulk at most 1048576: NARROWER than '..Said'. Prove '..Said' where nothing that the law and all that it calls make is longer than what came in: it says more and counts as full. Else prove '..UptoSaid'. A law counts once. -/
mutual
def uptoBulk {H : Type} : DataW H → Nat
  | .lit (.string bytes) => bytes.length + 1
  | .lit _ => 1
  | .nil => 1
  | .ptr d => uptoBulk d + 1
  | .slice elems spare => uptoBulkAll elems + uptoBulkAll spare + 1
  | .agg parts => uptoBulkAll parts + 1
  | .iface _ d => uptoBulk d + 1
  | .map entries => uptoBulkEntries entries + 1
  | .held _ => 1
def uptoBulkAll {H : Type} : List (DataW H) → Nat
  | [] => 0
  | d :: r => uptoBulk d + uptoBulkAll r
def uptoBulkEntries {H : Type} : List (Lit × DataW H) → Nat
  | [] => 0
  | x :: r => uptoBulkEntry x + uptoBulkEntries r
def uptoBulkEntry {H : Type} : Lit × DataW H → Nat
  | (.string bytes, d) => bytes.length + uptoBulk d + 1
  | (_, d) => uptoBulk d + 1
 end
def uptoSmall : (H : Type) → List (DataW H) → Bool := fun _ ds => decide (uptoBulkAll ds ≤ 1048576)
def OpenSpec.upto (s : _root_.Go.ChangeSpec) : _root_.Go.OpenSpec := { _root_.Go.OpenSpec.ofChange s with cond := some uptoSmall }

/-- 'laws.FnExactIsValidGeneration', WHERE WHAT IT READS IS OF BULK AT MOST 1048576: true; the input reads as it did. -/
def fnExactIsValidGenerationUptoRow : OpenClaim := { program := "ythhojflpaebloaa", sum := "a0bf2617ab0ecdeec40caaae6887dec48dc4f1d6d465192937b9a54b1667793d", func := "loop.example/g00513/laws.FnExactIsValidGeneration", spec := "fnExactIsValidGeneration", apart := false, narrowed := true }
def FnExactIsValidGenerationUptoSaid : Prop := fnExactIsValidGenerationUptoRow.holds Try.pinned (OpenSpec.upto fnExactIsValidGenerationSpec)

/-- 'laws.FnExactRandomVector', WHERE WHAT IT READS IS OF BULK AT MOST 1048576: true; the input reads as it did. -/
def fnExactRandomVectorUptoRow : OpenClaim := { program := "ythhojflpaebloaa", sum := "a0bf2617ab0ecdeec40caaae6887dec48dc4f1d6d465192937b9a54b1667793d", func := "loop.example/g00513/laws.FnExactRandomVector", spec := "fnExactRandomVector", unfollowed := true, recurses := true, apart := false, narrowed := true }
def FnExactRandomVectorUptoSaid : Prop := fnExactRandomVectorUptoRow.holds Try.pinned (OpenSpec.upto fnExactRandomVectorSpec)

/-- 'laws.FnExactShuffle', WHERE WHAT IT READS IS OF BULK AT MOST 1048576: true; the input reads as it did. -/
def fnExactShuffleUptoRow : OpenClaim := { program := "ythhojflpaebloaa", sum := "a0bf2617ab0ecdeec40caaae6887dec48dc4f1d6d465192937b9a54b1667793d", func := "loop.example/g00513/laws.FnExactShuffle", spec := "fnExactShuffle", apart := false, narrowed := true }
def FnExactShuffleUptoSaid : Prop := fnExactShuffleUptoRow.holds Try.pinned (OpenSpec.upto fnExactShuffleSpec)

/-- 'laws.FnExactBytesToSymbols', WHERE WHAT IT READS IS OF BULK AT MOST 1048576: true; the input reads as it did. -/
def fnExactBytesToSymbolsUptoRow : OpenClaim := { program := "ythhojflpaebloaa", sum := "a0bf2617ab0ecdeec40caaae6887dec48dc4f1d6d465192937b9a54b1667793d", func := "loop.example/g00513/laws.FnExactBytesToSymbols", spec := "fnExactBytesToSymbols", apart := false, narrowed := true }
def FnExactBytesToSymbolsUptoSaid : Prop := fnExactBytesToSymbolsUptoRow.holds Try.pinned (OpenSpec.upto fnExactBytesToSymbolsSpec)

/-- 'laws.FnExactEncodeDense', WHERE WHAT IT READS IS OF BULK AT MOST 1048576: true; the input reads as it did. -/
def fnExactEncodeDenseUptoRow : OpenClaim := { program := "ythhojflpaebloaa", sum := "a0bf2617ab0ecdeec40caaae6887dec48dc4f1d6d465192937b9a54b1667793d", func := "loop.example/g00513/laws.FnExactEncodeDense", spec := "fnExactEncodeDense", apart := false, narrowed := true }
def FnExactEncodeDenseUptoSaid : Prop := fnExactEncodeDenseUptoRow.holds Try.pinned (OpenSpec.upto fnExactEncodeDenseSpec)

/-- 'laws.FnExactEncodeSparse', WHERE WHAT IT READS IS OF BULK AT MOST 1048576: true; the input reads as it did. -/
def fnExactEncodeSparseUptoRow : OpenClaim := { program := "ythhojflpaebloaa", sum := "a0bf2617ab0ecdeec40caaae6887dec48dc4f1d6d465192937b9a54b1667793d", func := "loop.example/g00513/laws.FnExactEncodeSparse", spec := "fnExactEncodeSparse", apart := false, narrowed := true }
def FnExactEncodeSparseUptoSaid : Prop := fnExactEncodeSparseUptoRow.holds Try.pinned (OpenSpec.upto fnExactEncodeSparseSpec)

/-- 'laws.FnExactEncodedSize', WHERE WHAT IT READS IS OF BULK AT MOST 1048576: true; the input reads as it did. -/
def fnExactEncodedSizeUptoRow : OpenClaim := { program := "ythhojflpaebloaa", sum := "a0bf2617ab0ecdeec40caaae6887dec48dc4f1d6d465192937b9a54b1667793d", func := "loop.example/g00513/laws.FnExactEncodedSize", spec := "fnExactEncodedSize", apart := false, narrowed := true }
def FnExactEncodedSizeUptoSaid : Prop := fnExactEncodedSizeUptoRow.holds Try.pinned (OpenSpec.upto fnExactEncodedSizeSpec)

/-- 'laws.FnExactEncodePacket', WHERE WHAT IT READS IS OF BULK AT MOST 1048576: true; the input reads as it did. -/
def fnExactEncodePacketUptoRow : OpenClaim := { program := "ythhojflpaebloaa", sum := "a0bf2617ab0ecdeec40caaae6887dec48dc4f1d6d465192937b9a54b1667793d", func := "loop.example/g00513/laws.FnExactEncodePacket", spec := "fnExactEncodePacket", apart := false, narrowed := true }
def FnExactEncodePacketUptoSaid : Prop := fnExactEncodePacketUptoRow.holds Try.pinned (OpenSpec.upto fnExactEncodePacketSpec)

/-- 'laws.FnExactEncodeCoefficients', WHERE WHAT IT READS IS OF BULK AT MOST 1048576: true; the input reads as it did. -/
def fnExactEncodeCoefficientsUptoRow : OpenClaim := { program := "ythhojflpaebloaa", sum := "a0bf2617ab0ecdeec40caaae6887dec48dc4f1d6d465192937b9a54b1667793d", func := "loop.example/g00513/laws.FnExactEncodeCoefficients", spec := "fnExactEncodeCoefficients", apart := false, narrowed := true }
def FnExactEncodeCoefficientsUptoSaid : Prop := fnExactEncodeCoefficientsUptoRow.holds Try.pinned (OpenSpec.upto fnExactEncodeCoefficientsSpec)

/-- 'laws.FnExactSplitMessage', WHERE WHAT IT READS IS OF BULK AT MOST 1048576: true; the input reads as it did. -/
def fnExactSplitMessageUptoRow : OpenClaim := { program := "ythhojflpaebloaa", sum := "a0bf2617ab0ecdeec40caaae6887dec48dc4f1d6d465192937b9a54b1667793d", func := "loop.example/g00513/laws.FnExactSplitMessage", spec := "fnExactSplitMessage", apart := false, narrowed := true }
def FnExactSplitMessageUptoSaid : Prop := fnExactSplitMessageUptoRow.holds Try.pinned (OpenSpec.upto fnExactSplitMessageSpec)

/-- 'laws.FnExactCombinePackets', WHERE WHAT IT READS IS OF BULK AT MOST 1048576: true; the input reads as it did. -/
def fnExactCombinePacketsUptoRow : OpenClaim := { program := "ythhojflpaebloaa", sum := "a0bf2617ab0ecdeec40caaae6887dec48dc4f1d6d465192937b9a54b1667793d", func := "loop.example/g00513/laws.FnExactCombinePackets", spec := "fnExactCombinePackets", apart := false, narrowed := true }
def FnExactCombinePacketsUptoSaid : Prop := fnExactCombinePacketsUptoRow.holds Try.pinned (OpenSpec.upto fnExactCombinePacketsSpec)

/-- 'laws.FnExactCodePacket', WHERE WHAT IT READS IS OF BULK AT MOST 1048576: true; the input reads as it did. -/
def fnExactCodePacketUptoRow : OpenClaim := { program := "ythhojflpaebloaa", sum := "a0bf2617ab0ecdeec40caaae6887dec48dc4f1d6d465192937b9a54b1667793d", func := "loop.example/g00513/laws.FnExactCodePacket", spec := "fnExactCodePacket", apart := false, narrowed := true }
def FnExactCodePacketUptoSaid : Prop := fnExactCodePacketUptoRow.holds Try.pinned (OpenSpec.upto fnExactCodePacketSpec)

end Rows
end Go.Proofs.Ythhojflpaebloaa
