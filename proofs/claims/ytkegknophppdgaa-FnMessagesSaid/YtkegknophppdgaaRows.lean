/-
  No cell of these rows narrows 'for every input' (looked for: loops, veiled, ifaces, maps, wideKeys, modest, calm, conditions, laid).
  DERIVED. THE GIVEN ROWS OF THIS SEAT. 12 by the template 'for every input the law returns true; each argument reads behind the call as it read before'; 0 by the template 'total and deterministic' (their statements: YtkegknophppdgaaTotals.lean).
  GIVEN WITH THE SEED: the statements are not yours to turn. If you find one false, say at which input.
  Laid BY PROGRAM, IN A SANDBOX (cutbox-rows.mjs): the forced cells as the released guide's own fill.sh prints them over the translation 82ebcbeeb42e00bd… (all of the seat's roots in one cut). By AI agents, Wed Nov 11 2026. No macro, syntax, notation, axiom, sorry.
-/
import Derived.Test.YtkegknophppdgaaChecked
import GoSem.Claim
import GoSem.ClaimJoined
import GoSem.ClaimMapViews
import Derived.JoinedTies
import Derived.KernelRfl
namespace Go.Proofs.Ytkegknophppdgaa
/- THE CELL 'sum', in the pinned program and in every row, IS THE sha256 OF THE DUMP (.gsa) THAT YtkegknophppdgaaProg.lean LOADS. Nothing in Lean hashes anything: it is a label: what it is worth is what the hold of that sum in a sandbox is worth. -/
noncomputable def Try.pinned : Pinned := { name := "ytkegknophppdgaa", sum := "82ebcbeeb42e00bd36ea5b404883a3b377225e093c25eb23e729cdaedf6f972b", checked := Try.checked }
namespace Rows
def none {H : Type} : Left H := { results := [], args := [] }

/-- 'laws.FnExactSplitMessage': WHATEVER THE INPUT: true; the input reads as it did. -/
def fnExactSplitMessageSpec : ChangeSpec := { name := "fnExactSplitMessage", fn := fun _ => fun
  | [d1, d2, d3, d4] => { results := [.lit (.bool true)], args := [d1, d2, d3, d4] }
  | _ => none }
def fnExactSplitMessageRow : OpenClaim := { program := "ytkegknophppdgaa", sum := "82ebcbeeb42e00bd36ea5b404883a3b377225e093c25eb23e729cdaedf6f972b", func := "loop.example/g00513/laws.FnExactSplitMessage", spec := "fnExactSplitMessage", apart := false }
def FnExactSplitMessageSaid : Prop := fnExactSplitMessageRow.holds Try.pinned (OpenSpec.ofChange fnExactSplitMessageSpec)

/-- ITS FALSE NEIGHBOUR: 'it returns false'. Refute it at one input. -/
def fnExactSplitMessageWrong : ChangeSpec := { name := "fnExactSplitMessage", fn := fun _ => fun
  | [d1, d2, d3, d4] => { results := [.lit (.bool false)], args := [d1, d2, d3, d4] }
  | _ => none }
def FnExactSplitMessageWrongFalsely : Prop := fnExactSplitMessageRow.holds Try.pinned (OpenSpec.ofChange fnExactSplitMessageWrong)

/-- 'laws.FnExactCombinePackets': WHATEVER THE INPUT: true; the input reads as it did. -/
def fnExactCombinePacketsSpec : ChangeSpec := { name := "fnExactCombinePackets", fn := fun _ => fun
  | [d1, d2] => { results := [.lit (.bool true)], args := [d1, d2] }
  | _ => none }
def fnExactCombinePacketsRow : OpenClaim := { program := "ytkegknophppdgaa", sum := "82ebcbeeb42e00bd36ea5b404883a3b377225e093c25eb23e729cdaedf6f972b", func := "loop.example/g00513/laws.FnExactCombinePackets", spec := "fnExactCombinePackets", apart := false }
def FnExactCombinePacketsSaid : Prop := fnExactCombinePacketsRow.holds Try.pinned (OpenSpec.ofChange fnExactCombinePacketsSpec)

/-- ITS FALSE NEIGHBOUR: 'it returns false'. Refute it at one input. -/
def fnExactCombinePacketsWrong : ChangeSpec := { name := "fnExactCombinePackets", fn := fun _ => fun
  | [d1, d2] => { results := [.lit (.bool false)], args := [d1, d2] }
  | _ => none }
def FnExactCombinePacketsWrongFalsely : Prop := fnExactCombinePacketsRow.holds Try.pinned (OpenSpec.ofChange fnExactCombinePacketsWrong)

/-- 'laws.FnExactSourcePacket': WHATEVER THE INPUT: true; the input reads as it did. -/
def fnExactSourcePacketSpec : ChangeSpec := { name := "fnExactSourcePacket", fn := fun _ => fun
  | [d1, d2] => { results := [.lit (.bool true)], args := [d1, d2] }
  | _ => none }
def fnExactSourcePacketRow : OpenClaim := { program := "ytkegknophppdgaa", sum := "82ebcbeeb42e00bd36ea5b404883a3b377225e093c25eb23e729cdaedf6f972b", func := "loop.example/g00513/laws.FnExactSourcePacket", spec := "fnExactSourcePacket", apart := false }
def FnExactSourcePacketSaid : Prop := fnExactSourcePacketRow.holds Try.pinned (OpenSpec.ofChange fnExactSourcePacketSpec)

/-- ITS FALSE NEIGHBOUR: 'it returns false'. Refute it at one input. -/
def fnExactSourcePacketWrong : ChangeSpec := { name := "fnExactSourcePacket", fn := fun _ => fun
  | [d1, d2] => { results := [.lit (.bool false)], args := [d1, d2] }
  | _ => none }
def FnExactSourcePacketWrongFalsely : Prop := fnExactSourcePacketRow.holds Try.pinned (OpenSpec.ofChange fnExactSourcePacketWrong)

/-- 'laws.FnExactDecodePacket': WHATEVER THE INPUT: true; the input reads as it did. -/
def fnExactDecodePacketSpec : ChangeSpec := { name := "fnExactDecodePacket", fn := fun _ => fun
  | [d] => { results := [.lit (.bool true)], args := [d] }
  | _ => none }
def fnExactDecodePacketRow : OpenClaim := { program := "ytkegknophppdgaa", sum := "82ebcbeeb42e00bd36ea5b404883a3b377225e093c25eb23e729cdaedf6f972b", func := "loop.example/g00513/laws.FnExactDecodePacket", spec := "fnExactDecodePacket", apart := false }
def FnExactDecodePacketSaid : Prop := fnExactDecodePacketRow.holds Try.pinned (OpenSpec.ofChange fnExactDecodePacketSpec)

/-- ITS FALSE NEIGHBOUR: 'it returns false'. Refute it at one input. -/
def fnExactDecodePacketWrong : ChangeSpec := { name := "fnExactDecodePacket", fn := fun _ => fun
  | [d] => { results := [.lit (.bool false)], args := [d] }
  | _ => none }
def FnExactDecodePacketWrongFalsely : Prop := fnExactDecodePacketRow.holds Try.pinned (OpenSpec.ofChange fnExactDecodePacketWrong)

/-- 'laws.FnExactSymbolsToBytes': WHATEVER THE INPUT: true; the input reads as it did. -/
def fnExactSymbolsToBytesSpec : ChangeSpec := { name := "fnExactSymbolsToBytes", fn := fun _ => fun
  | [d] => { results := [.lit (.bool true)], args := [d] }
  | _ => none }
def fnExactSymbolsToBytesRow : OpenClaim := { program := "ytkegknophppdgaa", sum := "82ebcbeeb42e00bd36ea5b404883a3b377225e093c25eb23e729cdaedf6f972b", func := "loop.example/g00513/laws.FnExactSymbolsToBytes", spec := "fnExactSymbolsToBytes", unfollowed := true, recurses := true, apart := false }
def FnExactSymbolsToBytesSaid : Prop := fnExactSymbolsToBytesRow.holds Try.pinned (OpenSpec.ofChange fnExactSymbolsToBytesSpec)

/-- ITS FALSE NEIGHBOUR: 'it returns false'. Refute it at one input. -/
def fnExactSymbolsToBytesWrong : ChangeSpec := { name := "fnExactSymbolsToBytes", fn := fun _ => fun
  | [d] => { results := [.lit (.bool false)], args := [d] }
  | _ => none }
def FnExactSymbolsToBytesWrongFalsely : Prop := fnExactSymbolsToBytesRow.holds Try.pinned (OpenSpec.ofChange fnExactSymbolsToBytesWrong)

/-- 'laws.FnExactDecodeCoefficients': WHATEVER THE INPUT: true; the input reads as it did. -/
def fnExactDecodeCoefficientsSpec : ChangeSpec := { name := "fnExactDecodeCoefficients", fn := fun _ => fun
  | [d] => { results := [.lit (.bool true)], args := [d] }
  | _ => none }
def fnExactDecodeCoefficientsRow : OpenClaim := { program := "ytkegknophppdgaa", sum := "82ebcbeeb42e00bd36ea5b404883a3b377225e093c25eb23e729cdaedf6f972b", func := "loop.example/g00513/laws.FnExactDecodeCoefficients", spec := "fnExactDecodeCoefficients", apart := false }
def FnExactDecodeCoefficientsSaid : Prop := fnExactDecodeCoefficientsRow.holds Try.pinned (OpenSpec.ofChange fnExactDecodeCoefficientsSpec)

/-- ITS FALSE NEIGHBOUR: 'it returns false'. Refute it at one input. -/
def fnExactDecodeCoefficientsWrong : ChangeSpec := { name := "fnExactDecodeCoefficients", fn := fun _ => fun
  | [d] => { results := [.lit (.bool false)], args := [d] }
  | _ => none }
def FnExactDecodeCoefficientsWrongFalsely : Prop := fnExactDecodeCoefficientsRow.holds Try.pinned (OpenSpec.ofChange fnExactDecodeCoefficientsWrong)

/-- 'laws.FnExactJoinGenerations': WHATEVER THE INPUT: true; the input reads as it did. -/
def fnExactJoinGenerationsSpec : ChangeSpec := { name := "fnExactJoinGenerations", fn := fun _ => fun
  | [d] => { results := [.lit (.bool true)], args := [d] }
  | _ => none }
def fnExactJoinGenerationsRow : OpenClaim := { program := "ytkegknophppdgaa", sum := "82ebcbeeb42e00bd36ea5b404883a3b377225e093c25eb23e729cdaedf6f972b", func := "loop.example/g00513/laws.FnExactJoinGenerations", spec := "fnExactJoinGenerations", unfollowed := true, recurses := true, apart := false }
def FnExactJoinGenerationsSaid : Prop := fnExactJoinGenerationsRow.holds Try.pinned (OpenSpec.ofChange fnExactJoinGenerationsSpec)

/-- ITS FALSE NEIGHBOUR: 'it returns false'. Refute it at one input. -/
def fnExactJoinGenerationsWrong : ChangeSpec := { name := "fnExactJoinGenerations", fn := fun _ => fun
  | [d] => { results := [.lit (.bool false)], args := [d] }
  | _ => none }
def FnExactJoinGenerationsWrongFalsely : Prop := fnExactJoinGenerationsRow.holds Try.pinned (OpenSpec.ofChange fnExactJoinGenerationsWrong)

/-- 'laws.FnMessages': WHATEVER THE INPUT: true; the input reads as it did. -/
def fnMessagesSpec : ChangeSpec := { name := "fnMessages", fn := fun _ => fun
  | [d] => { results := [.lit (.bool true)], args := [d] }
  | _ => none }
def fnMessagesRow : OpenClaim := { program := "ytkegknophppdgaa", sum := "82ebcbeeb42e00bd36ea5b404883a3b377225e093c25eb23e729cdaedf6f972b", func := "loop.example/g00513/laws.FnMessages", spec := "fnMessages", unfollowed := true, recurses := true, apart := false }
def FnMessagesSaid : Prop := fnMessagesRow.holds Try.pinned (OpenSpec.ofChange fnMessagesSpec)

/-- ITS FALSE NEIGHBOUR: 'it returns false'. Refute it at one input. -/
def fnMessagesWrong : ChangeSpec := { name := "fnMessages", fn := fun _ => fun
  | [d] => { results := [.lit (.bool false)], args := [d] }
  | _ => none }
def FnMessagesWrongFalsely : Prop := fnMessagesRow.holds Try.pinned (OpenSpec.ofChange fnMessagesWrong)

/-- 'laws.FnPackets': WHATEVER THE INPUT: true; the input reads as it did. -/
def fnPacketsSpec : ChangeSpec := { name := "fnPackets", fn := fun _ => fun
  | [d] => { results := [.lit (.bool true)], args := [d] }
  | _ => none }
def fnPacketsRow : OpenClaim := { program := "ytkegknophppdgaa", sum := "82ebcbeeb42e00bd36ea5b404883a3b377225e093c25eb23e729cdaedf6f972b", func := "loop.example/g00513/laws.FnPackets", spec := "fnPackets", unfollowed := true, recurses := true, apart := false }
def FnPacketsSaid : Prop := fnPacketsRow.holds Try.pinned (OpenSpec.ofChange fnPacketsSpec)

/-- ITS FALSE NEIGHBOUR: 'it returns false'. Refute it at one input. -/
def fnPacketsWrong : ChangeSpec := { name := "fnPackets", fn := fun _ => fun
  | [d] => { results := [.lit (.bool false)], args := [d] }
  | _ => none }
def FnPacketsWrongFalsely : Prop := fnPacketsRow.holds Try.pinned (OpenSpec.ofChange fnPacketsWrong)

/-- 'laws.FnSymbols': WHATEVER THE INPUT: true; the input reads as it did. -/
def fnSymbolsSpec : ChangeSpec := { name := "fnSymbols", fn := fun _ => fun
  | [d] => { results := [.lit (.bool true)], args := [d] }
  | _ => none }
def fnSymbolsRow : OpenClaim := { program := "ytkegknophppdgaa", sum := "82ebcbeeb42e00bd36ea5b404883a3b377225e093c25eb23e729cdaedf6f972b", func := "loop.example/g00513/laws.FnSymbols", spec := "fnSymbols", unfollowed := true, recurses := true, apart := false }
def FnSymbolsSaid : Prop := fnSymbolsRow.holds Try.pinned (OpenSpec.ofChange fnSymbolsSpec)

/-- ITS FALSE NEIGHBOUR: 'it returns false'. Refute it at one input. -/
def fnSymbolsWrong : ChangeSpec := { name := "fnSymbols", fn := fun _ => fun
  | [d] => { results := [.lit (.bool false)], args := [d] }
  | _ => none }
def FnSymbolsWrongFalsely : Prop := fnSymbolsRow.holds Try.pinned (OpenSpec.ofChange fnSymbolsWrong)

/-- 'laws.FnPacketEncoding': WHATEVER THE INPUT: true; the input reads as it did. -/
def fnPacketEncodingSpec : ChangeSpec := { name := "fnPacketEncoding", fn := fun _ => fun
  | [d] => { results := [.lit (.bool true)], args := [d] }
  | _ => none }
def fnPacketEncodingRow : OpenClaim := { program := "ytkegknophppdgaa", sum := "82ebcbeeb42e00bd36ea5b404883a3b377225e093c25eb23e729cdaedf6f972b", func := "loop.example/g00513/laws.FnPacketEncoding", spec := "fnPacketEncoding", apart := false }
def FnPacketEncodingSaid : Prop := fnPacketEncodingRow.holds Try.pinned (OpenSpec.ofChange fnPacketEncodingSpec)

/-- ITS FALSE NEIGHBOUR: 'it returns false'. Refute it at one input. -/
def fnPacketEncodingWrong : ChangeSpec := { name := "fnPacketEncoding", fn := fun _ => fun
  | [d] => { results := [.lit (.bool false)], args := [d] }
  | _ => none }
def FnPacketEncodingWrongFalsely : Prop := fnPacketEncodingRow.holds Try.pinned (OpenSpec.ofChange fnPacketEncodingWrong)

/-- 'laws.FnCoefficients': WHATEVER THE INPUT: true; the input reads as it did. -/
def fnCoefficientsSpec : ChangeSpec := { name := "fnCoefficients", fn := fun _ => fun
  | [d] => { results := [.lit (.bool true)], args := [d] }
  | _ => none }
def fnCoefficientsRow : OpenClaim := { program := "ytkegknophppdgaa", sum := "82ebcbeeb42e00bd36ea5b404883a3b377225e093c25eb23e729cdaedf6f972b", func := "loop.example/g00513/laws.FnCoefficients", spec := "fnCoefficients", apart := false }
def FnCoefficientsSaid : Prop := fnCoefficientsRow.holds Try.pinned (OpenSpec.ofChange fnCoefficientsSpec)

/-- ITS FALSE NEIGHBOUR: 'it returns false'. Refute it at one input. -/
def fnCoefficientsWrong : ChangeSpec := { name := "fnCoefficients", fn := fun _ => fun
  | [d] => { results := [.lit (.bool false)], args := [d] }
  | _ => none }
def FnCoefficientsWrongFalsely : Prop := fnCoefficientsRow.holds Try.pinned (OpenSpec.ofChange fnCoefficientsWrong)

/- THE SECOND FORM. 'bulk': how many values and letters a reading holds, each counted each time it is reached (what is shared counts as often as it is met; a slice's spare places count too). A statement '..UptoSaid' is the law's where the arguments, and the package variables that the reading takes, are together of bulk at most 1048576: NARROWER than '..Said'. Prove '..Said' where nothing that the law and all that it calls make is longer than what came in: it says more and counts as full. Else prove '..UptoSaid'. A law counts once. -/
mutual
def uptoBulk {H : Type} : DataW H → Nat
  | .lit (.string bytes) => bytes.length + 1
  | .lit _ => 1
  | .nil => 1
  | .ptr d => uptoBulk d + 1
  | .slice elems spare => uptoBulkAll elems + uptoBulkAll spare + 1
  | .agg parts => uptoBulkAll parts + 1
  | .iface _ d => uptoBulk d + 1
  | .map entries => uptoBulkEntries entries + 1
  | .held _ => 1
def uptoBulkAll {H : Type} : List (DataW H) → Nat
  | [] => 0
  | d :: r => uptoBulk d + uptoBulkAll r
def uptoBulkEntries {H : Type} : List (Lit × DataW H) → Nat
  | [] => 0
  | x :: r => uptoBulkEntry x + uptoBulkEntries r
def uptoBulkEntry {H : Type} : Lit × DataW H → Nat
  | (.string bytes, d) => bytes.length + uptoBulk d + 1
  | (_, d) => uptoBulk d + 1
 end
def uptoSmall : (H : Type) → List (DataW H) → Bool := fun _ ds => decide (uptoBulkAll ds ≤ 1048576)
def OpenSpec.upto (s : _root_.Go.ChangeSpec) : _root_.Go.OpenSpec := { _root_.Go.OpenSpec.ofChange s with cond := some uptoSmall }

/-- 'laws.FnExactSplitMessage', WHERE WHAT IT READS IS OF BULK AT MOST 1048576: true; the input reads as it did. -/
def fnExactSplitMessageUptoRow : OpenClaim := { program := "ytkegknophppdgaa", sum := "82ebcbeeb42e00bd36ea5b404883a3b377225e093c25eb23e729cdaedf6f972b", func := "loop.example/g00513/laws.FnExactSplitMessage", spec := "fnExactSplitMessage", apart := false, narrowed := true }
def FnExactSplitMessageUptoSaid : Prop := fnExactSplitMessageUptoRow.holds Try.pinned (OpenSpec.upto fnExactSplitMessageSpec)

/-- 'laws.FnExactCombinePackets', WHERE WHAT IT READS IS OF BULK AT MOST 1048576: true; the input reads as it did. -/
def fnExactCombinePacketsUptoRow : OpenClaim := { program := "ytkegknophppdgaa", sum := "82ebcbeeb42e00bd36ea5b404883a3b377225e093c25eb23e729cdaedf6f972b", func := "loop.example/g00513/laws.FnExactCombinePackets", spec := "fnExactCombinePackets", apart := false, narrowed := true }
def FnExactCombinePacketsUptoSaid : Prop := fnExactCombinePacketsUptoRow.holds Try.pinned (OpenSpec.upto fnExactCombinePacketsSpec)

/-- 'laws.FnExactSourcePacket', WHERE WHAT IT READS IS OF BULK AT MOST 1048576: true; the input reads as it did. -/
def fnExactSourcePacketUptoRow : OpenClaim := { program := "ytkegknophppdgaa", sum := "82ebcbeeb42e00bd36ea5b404883a3b377225e093c25eb23e729cdaedf6f972b", func := "loop.example/g00513/laws.FnExactSourcePacket", spec := "fnExactSourcePacket", apart := false, narrowed := true }
def FnExactSourcePacketUptoSaid : Prop := fnExactSourcePacketUptoRow.holds Try.pinned (OpenSpec.upto fnExactSourcePacketSpec)

/-- 'laws.FnExactDecodePacket', WHERE WHAT IT READS IS OF BULK AT MOST 1048576: true; the input reads as it did. -/
def fnExactDecodePacketUptoRow : OpenClaim := { program := "ytkegknophppdgaa", sum := "82ebcbeeb42e00bd36ea5b404883a3b377225e093c25eb23e729cdaedf6f972b", func := "loop.example/g00513/laws.FnExactDecodePacket", spec := "fnExactDecodePacket", apart := false, narrowed := true }
def FnExactDecodePacketUptoSaid : Prop := fnExactDecodePacketUptoRow.holds Try.pinned (OpenSpec.upto fnExactDecodePacketSpec)

/-- 'laws.FnExactSymbolsToBytes', WHERE WHAT IT READS IS OF BULK AT MOST 1048576: true; the input reads as it did. -/
def fnExactSymbolsToBytesUptoRow : OpenClaim := { program := "ytkegknophppdgaa", sum := "82ebcbeeb42e00bd36ea5b404883a3b377225e093c25eb23e729cdaedf6f972b", func := "loop.example/g00513/laws.FnExactSymbolsToBytes", spec := "fnExactSymbolsToBytes", unfollowed := true, recurses := true, apart := false, narrowed := true }
def FnExactSymbolsToBytesUptoSaid : Prop := fnExactSymbolsToBytesUptoRow.holds Try.pinned (OpenSpec.upto fnExactSymbolsToBytesSpec)

/-- 'laws.FnExactDecodeCoefficients', WHERE WHAT IT READS IS OF BULK AT MOST 1048576: true; the input reads as it did. -/
def fnExactDecodeCoefficientsUptoRow : OpenClaim := { program := "ytkegknophppdgaa", sum := "82ebcbeeb42e00bd36ea5b404883a3b377225e093c25eb23e729cdaedf6f972b", func := "loop.example/g00513/laws.FnExactDecodeCoefficients", spec := "fnExactDecodeCoefficients", apart := false, narrowed := true }
def FnExactDecodeCoefficientsUptoSaid : Prop := fnExactDecodeCoefficientsUptoRow.holds Try.pinned (OpenSpec.upto fnExactDecodeCoefficientsSpec)

/-- 'laws.FnExactJoinGenerations', WHERE WHAT IT READS IS OF BULK AT MOST 1048576: true; the input reads as it did. -/
def fnExactJoinGenerationsUptoRow : OpenClaim := { program := "ytkegknophppdgaa", sum := "82ebcbeeb42e00bd36ea5b404883a3b377225e093c25eb23e729cdaedf6f972b", func := "loop.example/g00513/laws.FnExactJoinGenerations", spec := "fnExactJoinGenerations", unfollowed := true, recurses := true, apart := false, narrowed := true }
def FnExactJoinGenerationsUptoSaid : Prop := fnExactJoinGenerationsUptoRow.holds Try.pinned (OpenSpec.upto fnExactJoinGenerationsSpec)

/-- 'laws.FnMessages', WHERE WHAT IT READS IS OF BULK AT MOST 1048576: true; the input reads as it did. -/
def fnMessagesUptoRow : OpenClaim := { program := "ytkegknophppdgaa", sum := "82ebcbeeb42e00bd36ea5b404883a3b377225e093c25eb23e729cdaedf6f972b", func := "loop.example/g00513/laws.FnMessages", spec := "fnMessages", unfollowed := true, recurses := true, apart := false, narrowed := true }
def FnMessagesUptoSaid : Prop := fnMessagesUptoRow.holds Try.pinned (OpenSpec.upto fnMessagesSpec)

/-- 'laws.FnPackets', WHERE WHAT IT READS IS OF BULK AT MOST 1048576: true; the input reads as it did. -/
def fnPacketsUptoRow : OpenClaim := { program := "ytkegknophppdgaa", sum := "82ebcbeeb42e00bd36ea5b404883a3b377225e093c25eb23e729cdaedf6f972b", func := "loop.example/g00513/laws.FnPackets", spec := "fnPackets", unfollowed := true, recurses := true, apart := false, narrowed := true }
def FnPacketsUptoSaid : Prop := fnPacketsUptoRow.holds Try.pinned (OpenSpec.upto fnPacketsSpec)

/-- 'laws.FnSymbols', WHERE WHAT IT READS IS OF BULK AT MOST 1048576: true; the input reads as it did. -/
def fnSymbolsUptoRow : OpenClaim := { program := "ytkegknophppdgaa", sum := "82ebcbeeb42e00bd36ea5b404883a3b377225e093c25eb23e729cdaedf6f972b", func := "loop.example/g00513/laws.FnSymbols", spec := "fnSymbols", unfollowed := true, recurses := true, apart := false, narrowed := true }
def FnSymbolsUptoSaid : Prop := fnSymbolsUptoRow.holds Try.pinned (OpenSpec.upto fnSymbolsSpec)

/-- 'laws.FnPacketEncoding', WHERE WHAT IT READS IS OF BULK AT MOST 1048576: true; the input reads as it did. -/
def fnPacketEncodingUptoRow : OpenClaim := { program := "ytkegknophppdgaa", sum := "82ebcbeeb42e00bd36ea5b404883a3b377225e093c25eb23e729cdaedf6f972b", func := "loop.example/g00513/laws.FnPacketEncoding", spec := "fnPacketEncoding", apart := false, narrowed := true }
def FnPacketEncodingUptoSaid : Prop := fnPacketEncodingUptoRow.holds Try.pinned (OpenSpec.upto fnPacketEncodingSpec)

/-- 'laws.FnCoefficients', WHERE WHAT IT READS IS OF BULK AT MOST 1048576: true; the input reads as it did. -/
def fnCoefficientsUptoRow : OpenClaim := { program := "ytkegknophppdgaa", sum := "82ebcbeeb42e00bd36ea5b404883a3b377225e093c25eb23e729cdaedf6f972b", func := "loop.example/g00513/laws.FnCoefficients", spec := "fnCoefficients", apart := false, narrowed := true }
def FnCoefficientsUptoSaid : Prop := fnCoefficientsUptoRow.holds Try.pinned (OpenSpec.upto fnCoefficientsSpec)

end Rows
end Go.Proofs.Ytkegknophppdgaa
