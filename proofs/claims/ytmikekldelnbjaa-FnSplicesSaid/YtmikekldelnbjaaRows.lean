/-
  No cell of these rows narrows 'for every input' (looked for: loops, veiled, ifaces, maps, wideKeys, modest, calm, conditions, laid).
  DERIVED. THE GIVEN ROWS OF THIS SEAT. 11 by the template 'for every input the law returns true; each argument reads behind the call as it read before'; 0 by the template 'total and deterministic' (their statements: YtmikekldelnbjaaTotals.lean).
  GIVEN WITH THE SEED: the statements are not yours to turn. If you find one false, say at which input.
  Laid BY PROGRAM, IN A SANDBOX (cutbox-rows.mjs): the forced cells as the released guide's own fill.sh prints them over the translation 448258712bc9fdc4… (all of the seat's roots in one cut). By AI agents, Wed Nov 11 2026. No macro, syntax, notation, axiom, sorry.
-/
import Derived.Test.YtmikekldelnbjaaChecked
import GoSem.Claim
import GoSem.ClaimJoined
import GoSem.ClaimMapViews
import Derived.JoinedTies
import Derived.KernelRfl
namespace Go.Proofs.Ytmikekldelnbjaa
/- THE CELL 'sum', in the pinned program and in every row, IS THE sha256 OF THE DUMP (.gsa) THAT YtmikekldelnbjaaProg.lean LOADS. Nothing in Lean hashes anything: it is a label: what it is worth is what the hold of that sum in a sandbox is worth. -/
noncomputable def Try.pinned : Pinned := { name := "ytmikekldelnbjaa", sum := "448258712bc9fdc4b79d88c20e005adc2e370625f3114b9f44b25d19b7f57651", checked := Try.checked }
namespace Rows
def none {H : Type} : Left H := { results := [], args := [] }

/-- 'laws.FnExactSumOfBytes': WHATEVER THE INPUT: true; the input reads as it did. -/
def fnExactSumOfBytesSpec : ChangeSpec := { name := "fnExactSumOfBytes", fn := fun _ => fun
  | [d] => { results := [.lit (.bool true)], args := [d] }
  | _ => none }
def fnExactSumOfBytesRow : OpenClaim := { program := "ytmikekldelnbjaa", sum := "448258712bc9fdc4b79d88c20e005adc2e370625f3114b9f44b25d19b7f57651", func := "loop.example/g00518/laws.FnExactSumOfBytes", spec := "fnExactSumOfBytes", apart := false }
def FnExactSumOfBytesSaid : Prop := fnExactSumOfBytesRow.holds Try.pinned (OpenSpec.ofChange fnExactSumOfBytesSpec)

/-- ITS FALSE NEIGHBOUR: 'it returns false'. Refute it at one input. -/
def fnExactSumOfBytesWrong : ChangeSpec := { name := "fnExactSumOfBytes", fn := fun _ => fun
  | [d] => { results := [.lit (.bool false)], args := [d] }
  | _ => none }
def FnExactSumOfBytesWrongFalsely : Prop := fnExactSumOfBytesRow.holds Try.pinned (OpenSpec.ofChange fnExactSumOfBytesWrong)

/-- 'laws.FnExactEqualBytes': WHATEVER THE INPUT: true; the input reads as it did. -/
def fnExactEqualBytesSpec : ChangeSpec := { name := "fnExactEqualBytes", fn := fun _ => fun
  | [d1, d2] => { results := [.lit (.bool true)], args := [d1, d2] }
  | _ => none }
def fnExactEqualBytesRow : OpenClaim := { program := "ytmikekldelnbjaa", sum := "448258712bc9fdc4b79d88c20e005adc2e370625f3114b9f44b25d19b7f57651", func := "loop.example/g00518/laws.FnExactEqualBytes", spec := "fnExactEqualBytes", apart := false }
def FnExactEqualBytesSaid : Prop := fnExactEqualBytesRow.holds Try.pinned (OpenSpec.ofChange fnExactEqualBytesSpec)

/-- ITS FALSE NEIGHBOUR: 'it returns false'. Refute it at one input. -/
def fnExactEqualBytesWrong : ChangeSpec := { name := "fnExactEqualBytes", fn := fun _ => fun
  | [d1, d2] => { results := [.lit (.bool false)], args := [d1, d2] }
  | _ => none }
def FnExactEqualBytesWrongFalsely : Prop := fnExactEqualBytesRow.holds Try.pinned (OpenSpec.ofChange fnExactEqualBytesWrong)

/-- 'laws.FnExactFormatHex': WHATEVER THE INPUT: true; the input reads as it did. -/
def fnExactFormatHexSpec : ChangeSpec := { name := "fnExactFormatHex", fn := fun _ => fun
  | [d] => { results := [.lit (.bool true)], args := [d] }
  | _ => none }
def fnExactFormatHexRow : OpenClaim := { program := "ytmikekldelnbjaa", sum := "448258712bc9fdc4b79d88c20e005adc2e370625f3114b9f44b25d19b7f57651", func := "loop.example/g00518/laws.FnExactFormatHex", spec := "fnExactFormatHex", apart := false }
def FnExactFormatHexSaid : Prop := fnExactFormatHexRow.holds Try.pinned (OpenSpec.ofChange fnExactFormatHexSpec)

/-- ITS FALSE NEIGHBOUR: 'it returns false'. Refute it at one input. -/
def fnExactFormatHexWrong : ChangeSpec := { name := "fnExactFormatHex", fn := fun _ => fun
  | [d] => { results := [.lit (.bool false)], args := [d] }
  | _ => none }
def FnExactFormatHexWrongFalsely : Prop := fnExactFormatHexRow.holds Try.pinned (OpenSpec.ofChange fnExactFormatHexWrong)

/-- 'laws.FnExactReadInteger': WHATEVER THE INPUT: true; the input reads as it did. -/
def fnExactReadIntegerSpec : ChangeSpec := { name := "fnExactReadInteger", fn := fun _ => fun
  | [d1, d2] => { results := [.lit (.bool true)], args := [d1, d2] }
  | _ => none }
def fnExactReadIntegerRow : OpenClaim := { program := "ytmikekldelnbjaa", sum := "448258712bc9fdc4b79d88c20e005adc2e370625f3114b9f44b25d19b7f57651", func := "loop.example/g00518/laws.FnExactReadInteger", spec := "fnExactReadInteger", apart := false }
def FnExactReadIntegerSaid : Prop := fnExactReadIntegerRow.holds Try.pinned (OpenSpec.ofChange fnExactReadIntegerSpec)

/-- ITS FALSE NEIGHBOUR: 'it returns false'. Refute it at one input. -/
def fnExactReadIntegerWrong : ChangeSpec := { name := "fnExactReadInteger", fn := fun _ => fun
  | [d1, d2] => { results := [.lit (.bool false)], args := [d1, d2] }
  | _ => none }
def FnExactReadIntegerWrongFalsely : Prop := fnExactReadIntegerRow.holds Try.pinned (OpenSpec.ofChange fnExactReadIntegerWrong)

/-- 'laws.FnExactSpliceBytes': WHATEVER THE INPUT: true; the input reads as it did. -/
def fnExactSpliceBytesSpec : ChangeSpec := { name := "fnExactSpliceBytes", fn := fun _ => fun
  | [d1, d2, d3, d4] => { results := [.lit (.bool true)], args := [d1, d2, d3, d4] }
  | _ => none }
def fnExactSpliceBytesRow : OpenClaim := { program := "ytmikekldelnbjaa", sum := "448258712bc9fdc4b79d88c20e005adc2e370625f3114b9f44b25d19b7f57651", func := "loop.example/g00518/laws.FnExactSpliceBytes", spec := "fnExactSpliceBytes", apart := false }
def FnExactSpliceBytesSaid : Prop := fnExactSpliceBytesRow.holds Try.pinned (OpenSpec.ofChange fnExactSpliceBytesSpec)

/-- ITS FALSE NEIGHBOUR: 'it returns false'. Refute it at one input. -/
def fnExactSpliceBytesWrong : ChangeSpec := { name := "fnExactSpliceBytes", fn := fun _ => fun
  | [d1, d2, d3, d4] => { results := [.lit (.bool false)], args := [d1, d2, d3, d4] }
  | _ => none }
def FnExactSpliceBytesWrongFalsely : Prop := fnExactSpliceBytesRow.holds Try.pinned (OpenSpec.ofChange fnExactSpliceBytesWrong)

/-- 'laws.FnExactBigEndian': WHATEVER THE INPUT: true; the input reads as it did. -/
def fnExactBigEndianSpec : ChangeSpec := { name := "fnExactBigEndian", fn := fun _ => fun
  | [d1, d2] => { results := [.lit (.bool true)], args := [d1, d2] }
  | _ => none }
def fnExactBigEndianRow : OpenClaim := { program := "ytmikekldelnbjaa", sum := "448258712bc9fdc4b79d88c20e005adc2e370625f3114b9f44b25d19b7f57651", func := "loop.example/g00518/laws.FnExactBigEndian", spec := "fnExactBigEndian", apart := false }
def FnExactBigEndianSaid : Prop := fnExactBigEndianRow.holds Try.pinned (OpenSpec.ofChange fnExactBigEndianSpec)

/-- ITS FALSE NEIGHBOUR: 'it returns false'. Refute it at one input. -/
def fnExactBigEndianWrong : ChangeSpec := { name := "fnExactBigEndian", fn := fun _ => fun
  | [d1, d2] => { results := [.lit (.bool false)], args := [d1, d2] }
  | _ => none }
def FnExactBigEndianWrongFalsely : Prop := fnExactBigEndianRow.holds Try.pinned (OpenSpec.ofChange fnExactBigEndianWrong)

/-- 'laws.FnExactLittleEndian': WHATEVER THE INPUT: true; the input reads as it did. -/
def fnExactLittleEndianSpec : ChangeSpec := { name := "fnExactLittleEndian", fn := fun _ => fun
  | [d1, d2] => { results := [.lit (.bool true)], args := [d1, d2] }
  | _ => none }
def fnExactLittleEndianRow : OpenClaim := { program := "ytmikekldelnbjaa", sum := "448258712bc9fdc4b79d88c20e005adc2e370625f3114b9f44b25d19b7f57651", func := "loop.example/g00518/laws.FnExactLittleEndian", spec := "fnExactLittleEndian", apart := false }
def FnExactLittleEndianSaid : Prop := fnExactLittleEndianRow.holds Try.pinned (OpenSpec.ofChange fnExactLittleEndianSpec)

/-- ITS FALSE NEIGHBOUR: 'it returns false'. Refute it at one input. -/
def fnExactLittleEndianWrong : ChangeSpec := { name := "fnExactLittleEndian", fn := fun _ => fun
  | [d1, d2] => { results := [.lit (.bool false)], args := [d1, d2] }
  | _ => none }
def FnExactLittleEndianWrongFalsely : Prop := fnExactLittleEndianRow.holds Try.pinned (OpenSpec.ofChange fnExactLittleEndianWrong)

/-- 'laws.FnExactParseHex': WHATEVER THE INPUT: true; the input reads as it did. -/
def fnExactParseHexSpec : ChangeSpec := { name := "fnExactParseHex", fn := fun _ => fun
  | [d] => { results := [.lit (.bool true)], args := [d] }
  | _ => none }
def fnExactParseHexRow : OpenClaim := { program := "ytmikekldelnbjaa", sum := "448258712bc9fdc4b79d88c20e005adc2e370625f3114b9f44b25d19b7f57651", func := "loop.example/g00518/laws.FnExactParseHex", spec := "fnExactParseHex", apart := false }
def FnExactParseHexSaid : Prop := fnExactParseHexRow.holds Try.pinned (OpenSpec.ofChange fnExactParseHexSpec)

/-- ITS FALSE NEIGHBOUR: 'it returns false'. Refute it at one input. -/
def fnExactParseHexWrong : ChangeSpec := { name := "fnExactParseHex", fn := fun _ => fun
  | [d] => { results := [.lit (.bool false)], args := [d] }
  | _ => none }
def FnExactParseHexWrongFalsely : Prop := fnExactParseHexRow.holds Try.pinned (OpenSpec.ofChange fnExactParseHexWrong)

/-- 'laws.FnSplices': WHATEVER THE INPUT: true; the input reads as it did. -/
def fnSplicesSpec : ChangeSpec := { name := "fnSplices", fn := fun _ => fun
  | [d] => { results := [.lit (.bool true)], args := [d] }
  | _ => none }
def fnSplicesRow : OpenClaim := { program := "ytmikekldelnbjaa", sum := "448258712bc9fdc4b79d88c20e005adc2e370625f3114b9f44b25d19b7f57651", func := "loop.example/g00518/laws.FnSplices", spec := "fnSplices", apart := false }
def FnSplicesSaid : Prop := fnSplicesRow.holds Try.pinned (OpenSpec.ofChange fnSplicesSpec)

/-- ITS FALSE NEIGHBOUR: 'it returns false'. Refute it at one input. -/
def fnSplicesWrong : ChangeSpec := { name := "fnSplices", fn := fun _ => fun
  | [d] => { results := [.lit (.bool false)], args := [d] }
  | _ => none }
def FnSplicesWrongFalsely : Prop := fnSplicesRow.holds Try.pinned (OpenSpec.ofChange fnSplicesWrong)

/-- 'laws.FnByteOrders': WHATEVER THE INPUT: true; the input reads as it did. -/
def fnByteOrdersSpec : ChangeSpec := { name := "fnByteOrders", fn := fun _ => fun
  | [d] => { results := [.lit (.bool true)], args := [d] }
  | _ => none }
def fnByteOrdersRow : OpenClaim := { program := "ytmikekldelnbjaa", sum := "448258712bc9fdc4b79d88c20e005adc2e370625f3114b9f44b25d19b7f57651", func := "loop.example/g00518/laws.FnByteOrders", spec := "fnByteOrders", apart := false }
def FnByteOrdersSaid : Prop := fnByteOrdersRow.holds Try.pinned (OpenSpec.ofChange fnByteOrdersSpec)

/-- ITS FALSE NEIGHBOUR: 'it returns false'. Refute it at one input. -/
def fnByteOrdersWrong : ChangeSpec := { name := "fnByteOrders", fn := fun _ => fun
  | [d] => { results := [.lit (.bool false)], args := [d] }
  | _ => none }
def FnByteOrdersWrongFalsely : Prop := fnByteOrdersRow.holds Try.pinned (OpenSpec.ofChange fnByteOrdersWrong)

/-- 'laws.FnHex': WHATEVER THE INPUT: true; the input reads as it did. -/
def fnHexSpec : ChangeSpec := { name := "fnHex", fn := fun _ => fun
  | [d] => { results := [.lit (.bool true)], args := [d] }
  | _ => none }
def fnHexRow : OpenClaim := { program := "ytmikekldelnbjaa", sum := "448258712bc9fdc4b79d88c20e005adc2e370625f3114b9f44b25d19b7f57651", func := "loop.example/g00518/laws.FnHex", spec := "fnHex", apart := false }
def FnHexSaid : Prop := fnHexRow.holds Try.pinned (OpenSpec.ofChange fnHexSpec)

/-- ITS FALSE NEIGHBOUR: 'it returns false'. Refute it at one input. -/
def fnHexWrong : ChangeSpec := { name := "fnHex", fn := fun _ => fun
  | [d] => { results := [.lit (.bool false)], args := [d] }
  | _ => none }
def FnHexWrongFalsely : Prop := fnHexRow.holds Try.pinned (OpenSpec.ofChange fnHexWrong)

/- THE SECOND FORM. 'bulk': how many values and letters a reading holds, each counted each time it is reached (what is shared counts as often as it is met; a slice's spare places count too). A statement '..UptoSaid' is the law's where the arguments, and the package variables that the reading takes, are together of bulk at most 1048576: NARROWER than '..Said'. Prove '..Said' where nothing that the law and all that it calls make is longer than what came in: it says more and counts as full. Else prove '..UptoSaid'. A law counts once. -/
mutual
def uptoBulk {H : Type} : DataW H → Nat
  | .lit (.string bytes) => bytes.length + 1
  | .lit _ => 1
  | .nil => 1
  | .ptr d => uptoBulk d + 1
  | .slice elems spare => uptoBulkAll elems + uptoBulkAll spare + 1
  | .agg parts => uptoBulkAll parts + 1
  | .iface _ d => uptoBulk d + 1
  | .map entries => uptoBulkEntries entries + 1
  | .held _ => 1
def uptoBulkAll {H : Type} : List (DataW H) → Nat
  | [] => 0
  | d :: r => uptoBulk d + uptoBulkAll r
def uptoBulkEntries {H : Type} : List (Lit × DataW H) → Nat
  | [] => 0
  | x :: r => uptoBulkEntry x + uptoBulkEntries r
def uptoBulkEntry {H : Type} : Lit × DataW H → Nat
  | (.string bytes, d) => bytes.length + uptoBulk d + 1
  | (_, d) => uptoBulk d + 1
 end
def uptoSmall : (H : Type) → List (DataW H) → Bool := fun _ ds => decide (uptoBulkAll ds ≤ 1048576)
def OpenSpec.upto (s : _root_.Go.ChangeSpec) : _root_.Go.OpenSpec := { _root_.Go.OpenSpec.ofChange s with cond := some uptoSmall }

/-- 'laws.FnExactSumOfBytes', WHERE WHAT IT READS IS OF BULK AT MOST 1048576: true; the input reads as it did. -/
def fnExactSumOfBytesUptoRow : OpenClaim := { program := "ytmikekldelnbjaa", sum := "448258712bc9fdc4b79d88c20e005adc2e370625f3114b9f44b25d19b7f57651", func := "loop.example/g00518/laws.FnExactSumOfBytes", spec := "fnExactSumOfBytes", apart := false, narrowed := true }
def FnExactSumOfBytesUptoSaid : Prop := fnExactSumOfBytesUptoRow.holds Try.pinned (OpenSpec.upto fnExactSumOfBytesSpec)

/-- 'laws.FnExactEqualBytes', WHERE WHAT IT READS IS OF BULK AT MOST 1048576: true; the input reads as it did. -/
def fnExactEqualBytesUptoRow : OpenClaim := { program := "ytmikekldelnbjaa", sum := "448258712bc9fdc4b79d88c20e005adc2e370625f3114b9f44b25d19b7f57651", func := "loop.example/g00518/laws.FnExactEqualBytes", spec := "fnExactEqualBytes", apart := false, narrowed := true }
def FnExactEqualBytesUptoSaid : Prop := fnExactEqualBytesUptoRow.holds Try.pinned (OpenSpec.upto fnExactEqualBytesSpec)

/-- 'laws.FnExactFormatHex', WHERE WHAT IT READS IS OF BULK AT MOST 1048576: true; the input reads as it did. -/
def fnExactFormatHexUptoRow : OpenClaim := { program := "ytmikekldelnbjaa", sum := "448258712bc9fdc4b79d88c20e005adc2e370625f3114b9f44b25d19b7f57651", func := "loop.example/g00518/laws.FnExactFormatHex", spec := "fnExactFormatHex", apart := false, narrowed := true }
def FnExactFormatHexUptoSaid : Prop := fnExactFormatHexUptoRow.holds Try.pinned (OpenSpec.upto fnExactFormatHexSpec)

/-- 'laws.FnExactReadInteger', WHERE WHAT IT READS IS OF BULK AT MOST 1048576: true; the input reads as it did. -/
def fnExactReadIntegerUptoRow : OpenClaim := { program := "ytmikekldelnbjaa", sum := "448258712bc9fdc4b79d88c20e005adc2e370625f3114b9f44b25d19b7f57651", func := "loop.example/g00518/laws.FnExactReadInteger", spec := "fnExactReadInteger", apart := false, narrowed := true }
def FnExactReadIntegerUptoSaid : Prop := fnExactReadIntegerUptoRow.holds Try.pinned (OpenSpec.upto fnExactReadIntegerSpec)

/-- 'laws.FnExactSpliceBytes', WHERE WHAT IT READS IS OF BULK AT MOST 1048576: true; the input reads as it did. -/
def fnExactSpliceBytesUptoRow : OpenClaim := { program := "ytmikekldelnbjaa", sum := "448258712bc9fdc4b79d88c20e005adc2e370625f3114b9f44b25d19b7f57651", func := "loop.example/g00518/laws.FnExactSpliceBytes", spec := "fnExactSpliceBytes", apart := false, narrowed := true }
def FnExactSpliceBytesUptoSaid : Prop := fnExactSpliceBytesUptoRow.holds Try.pinned (OpenSpec.upto fnExactSpliceBytesSpec)

/-- 'laws.FnExactBigEndian', WHERE WHAT IT READS IS OF BULK AT MOST 1048576: true; the input reads as it did. -/
def fnExactBigEndianUptoRow : OpenClaim := { program := "ytmikekldelnbjaa", sum := "448258712bc9fdc4b79d88c20e005adc2e370625f3114b9f44b25d19b7f57651", func := "loop.example/g00518/laws.FnExactBigEndian", spec := "fnExactBigEndian", apart := false, narrowed := true }
def FnExactBigEndianUptoSaid : Prop := fnExactBigEndianUptoRow.holds Try.pinned (OpenSpec.upto fnExactBigEndianSpec)

/-- 'laws.FnExactLittleEndian', WHERE WHAT IT READS IS OF BULK AT MOST 1048576: true; the input reads as it did. -/
def fnExactLittleEndianUptoRow : OpenClaim := { program := "ytmikekldelnbjaa", sum := "448258712bc9fdc4b79d88c20e005adc2e370625f3114b9f44b25d19b7f57651", func := "loop.example/g00518/laws.FnExactLittleEndian", spec := "fnExactLittleEndian", apart := false, narrowed := true }
def FnExactLittleEndianUptoSaid : Prop := fnExactLittleEndianUptoRow.holds Try.pinned (OpenSpec.upto fnExactLittleEndianSpec)

/-- 'laws.FnExactParseHex', WHERE WHAT IT READS IS OF BULK AT MOST 1048576: true; the input reads as it did. -/
def fnExactParseHexUptoRow : OpenClaim := { program := "ytmikekldelnbjaa", sum := "448258712bc9fdc4b79d88c20e005adc2e370625f3114b9f44b25d19b7f57651", func := "loop.example/g00518/laws.FnExactParseHex", spec := "fnExactParseHex", apart := false, narrowed := true }
def FnExactParseHexUptoSaid : Prop := fnExactParseHexUptoRow.holds Try.pinned (OpenSpec.upto fnExactParseHexSpec)

/-- 'laws.FnSplices', WHERE WHAT IT READS IS OF BULK AT MOST 1048576: true; the input reads as it did. -/
def fnSplicesUptoRow : OpenClaim := { program := "ytmikekldelnbjaa", sum := "448258712bc9fdc4b79d88c20e005adc2e370625f3114b9f44b25d19b7f57651", func := "loop.example/g00518/laws.FnSplices", spec := "fnSplices", apart := false, narrowed := true }
def FnSplicesUptoSaid : Prop := fnSplicesUptoRow.holds Try.pinned (OpenSpec.upto fnSplicesSpec)

/-- 'laws.FnByteOrders', WHERE WHAT IT READS IS OF BULK AT MOST 1048576: true; the input reads as it did. -/
def fnByteOrdersUptoRow : OpenClaim := { program := "ytmikekldelnbjaa", sum := "448258712bc9fdc4b79d88c20e005adc2e370625f3114b9f44b25d19b7f57651", func := "loop.example/g00518/laws.FnByteOrders", spec := "fnByteOrders", apart := false, narrowed := true }
def FnByteOrdersUptoSaid : Prop := fnByteOrdersUptoRow.holds Try.pinned (OpenSpec.upto fnByteOrdersSpec)

/-- 'laws.FnHex', WHERE WHAT IT READS IS OF BULK AT MOST 1048576: true; the input reads as it did. -/
def fnHexUptoRow : OpenClaim := { program := "ytmikekldelnbjaa", sum := "448258712bc9fdc4b79d88c20e005adc2e370625f3114b9f44b25d19b7f57651", func := "loop.example/g00518/laws.FnHex", spec := "fnHex", apart := false, narrowed := true }
def FnHexUptoSaid : Prop := fnHexUptoRow.holds Try.pinned (OpenSpec.upto fnHexSpec)

end Rows
end Go.Proofs.Ytmikekldelnbjaa
