/-
  No cell of these rows narrows 'for every input' (looked for: loops, veiled, ifaces, maps, wideKeys, modest, calm, conditions, laid).
  DERIVED. THE GIVEN ROWS OF THIS SEAT. 12 by the template 'for every input the law returns true; each argument reads behind the call as it read before'; 0 by the template 'total and deterministic' (their statements: YtcegbilfcblhfaaTotals.lean).
  GIVEN WITH THE SEED: the statements are not yours to turn. If you find one false, say at which input.
  Laid BY PROGRAM, IN A SANDBOX (cutbox-rows.mjs): the forced cells as the released guide's own fill.sh prints them over the translation 6654e398734788a8… (all of the seat's roots in one cut). By AI agents, Wed Nov 11 2026. No macro, syntax, notation, axiom, sorry.
-/
import Derived.Test.YtcegbilfcblhfaaChecked
import GoSem.Claim
import GoSem.ClaimJoined
import GoSem.ClaimMapViews
import Derived.JoinedTies
import Derived.KernelRfl
namespace Go.Proofs.Ytcegbilfcblhfaa
/- THE CELL 'sum', in the pinned program and in every row, IS THE sha256 OF THE DUMP (.gsa) THAT YtcegbilfcblhfaaProg.lean LOADS. Nothing in Lean hashes anything: it is a label: what it is worth is what the hold of that sum in a sandbox is worth. -/
noncomputable def Try.pinned : Pinned := { name := "ytcegbilfcblhfaa", sum := "6654e398734788a804639beb96002c9c23bc19a76b92d989ba4310e3eeddfab8", checked := Try.checked }
namespace Rows
def none {H : Type} : Left H := { results := [], args := [] }

/-- 'laws.FnExactRootOf': WHATEVER THE INPUT: true; the input reads as it did. -/
def fnExactRootOfSpec : ChangeSpec := { name := "fnExactRootOf", fn := fun _ => fun
  | [d] => { results := [.lit (.bool true)], args := [d] }
  | _ => none }
def fnExactRootOfRow : OpenClaim := { program := "ytcegbilfcblhfaa", sum := "6654e398734788a804639beb96002c9c23bc19a76b92d989ba4310e3eeddfab8", func := "loop.example/g00518/laws.FnExactRootOf", spec := "fnExactRootOf", apart := false }
def FnExactRootOfSaid : Prop := fnExactRootOfRow.holds Try.pinned (OpenSpec.ofChange fnExactRootOfSpec)

/-- ITS FALSE NEIGHBOUR: 'it returns false'. Refute it at one input. -/
def fnExactRootOfWrong : ChangeSpec := { name := "fnExactRootOf", fn := fun _ => fun
  | [d] => { results := [.lit (.bool false)], args := [d] }
  | _ => none }
def FnExactRootOfWrongFalsely : Prop := fnExactRootOfRow.holds Try.pinned (OpenSpec.ofChange fnExactRootOfWrong)

/-- 'laws.FnExactKidName': WHATEVER THE INPUT: true; the input reads as it did. -/
def fnExactKidNameSpec : ChangeSpec := { name := "fnExactKidName", fn := fun _ => fun
  | [d1, d2, d3] => { results := [.lit (.bool true)], args := [d1, d2, d3] }
  | _ => none }
def fnExactKidNameRow : OpenClaim := { program := "ytcegbilfcblhfaa", sum := "6654e398734788a804639beb96002c9c23bc19a76b92d989ba4310e3eeddfab8", func := "loop.example/g00518/laws.FnExactKidName", spec := "fnExactKidName", apart := false }
def FnExactKidNameSaid : Prop := fnExactKidNameRow.holds Try.pinned (OpenSpec.ofChange fnExactKidNameSpec)

/-- ITS FALSE NEIGHBOUR: 'it returns false'. Refute it at one input. -/
def fnExactKidNameWrong : ChangeSpec := { name := "fnExactKidName", fn := fun _ => fun
  | [d1, d2, d3] => { results := [.lit (.bool false)], args := [d1, d2, d3] }
  | _ => none }
def FnExactKidNameWrongFalsely : Prop := fnExactKidNameRow.holds Try.pinned (OpenSpec.ofChange fnExactKidNameWrong)

/-- 'laws.FnExactFindRule': WHATEVER THE INPUT: true; the input reads as it did. -/
def fnExactFindRuleSpec : ChangeSpec := { name := "fnExactFindRule", fn := fun _ => fun
  | [d1, d2] => { results := [.lit (.bool true)], args := [d1, d2] }
  | _ => none }
def fnExactFindRuleRow : OpenClaim := { program := "ytcegbilfcblhfaa", sum := "6654e398734788a804639beb96002c9c23bc19a76b92d989ba4310e3eeddfab8", func := "loop.example/g00518/laws.FnExactFindRule", spec := "fnExactFindRule", apart := false }
def FnExactFindRuleSaid : Prop := fnExactFindRuleRow.holds Try.pinned (OpenSpec.ofChange fnExactFindRuleSpec)

/-- ITS FALSE NEIGHBOUR: 'it returns false'. Refute it at one input. -/
def fnExactFindRuleWrong : ChangeSpec := { name := "fnExactFindRule", fn := fun _ => fun
  | [d1, d2] => { results := [.lit (.bool false)], args := [d1, d2] }
  | _ => none }
def FnExactFindRuleWrongFalsely : Prop := fnExactFindRuleRow.holds Try.pinned (OpenSpec.ofChange fnExactFindRuleWrong)

/-- 'laws.FnExactIntegerLimit': WHATEVER THE INPUT: true; the input reads as it did. -/
def fnExactIntegerLimitSpec : ChangeSpec := { name := "fnExactIntegerLimit", fn := fun _ => fun
  | [d1, d2] => { results := [.lit (.bool true)], args := [d1, d2] }
  | _ => none }
def fnExactIntegerLimitRow : OpenClaim := { program := "ytcegbilfcblhfaa", sum := "6654e398734788a804639beb96002c9c23bc19a76b92d989ba4310e3eeddfab8", func := "loop.example/g00518/laws.FnExactIntegerLimit", spec := "fnExactIntegerLimit", apart := false }
def FnExactIntegerLimitSaid : Prop := fnExactIntegerLimitRow.holds Try.pinned (OpenSpec.ofChange fnExactIntegerLimitSpec)

/-- ITS FALSE NEIGHBOUR: 'it returns false'. Refute it at one input. -/
def fnExactIntegerLimitWrong : ChangeSpec := { name := "fnExactIntegerLimit", fn := fun _ => fun
  | [d1, d2] => { results := [.lit (.bool false)], args := [d1, d2] }
  | _ => none }
def FnExactIntegerLimitWrongFalsely : Prop := fnExactIntegerLimitRow.holds Try.pinned (OpenSpec.ofChange fnExactIntegerLimitWrong)

/-- 'laws.FnExactCountKind': WHATEVER THE INPUT: true; the input reads as it did. -/
def fnExactCountKindSpec : ChangeSpec := { name := "fnExactCountKind", fn := fun _ => fun
  | [d1, d2] => { results := [.lit (.bool true)], args := [d1, d2] }
  | _ => none }
def fnExactCountKindRow : OpenClaim := { program := "ytcegbilfcblhfaa", sum := "6654e398734788a804639beb96002c9c23bc19a76b92d989ba4310e3eeddfab8", func := "loop.example/g00518/laws.FnExactCountKind", spec := "fnExactCountKind", apart := false }
def FnExactCountKindSaid : Prop := fnExactCountKindRow.holds Try.pinned (OpenSpec.ofChange fnExactCountKindSpec)

/-- ITS FALSE NEIGHBOUR: 'it returns false'. Refute it at one input. -/
def fnExactCountKindWrong : ChangeSpec := { name := "fnExactCountKind", fn := fun _ => fun
  | [d1, d2] => { results := [.lit (.bool false)], args := [d1, d2] }
  | _ => none }
def FnExactCountKindWrongFalsely : Prop := fnExactCountKindRow.holds Try.pinned (OpenSpec.ofChange fnExactCountKindWrong)

/-- 'laws.FnExactParseKid': WHATEVER THE INPUT: true; the input reads as it did. -/
def fnExactParseKidSpec : ChangeSpec := { name := "fnExactParseKid", fn := fun _ => fun
  | [d1, d2] => { results := [.lit (.bool true)], args := [d1, d2] }
  | _ => none }
def fnExactParseKidRow : OpenClaim := { program := "ytcegbilfcblhfaa", sum := "6654e398734788a804639beb96002c9c23bc19a76b92d989ba4310e3eeddfab8", func := "loop.example/g00518/laws.FnExactParseKid", spec := "fnExactParseKid", unfollowed := true, recurses := true, apart := false }
def FnExactParseKidSaid : Prop := fnExactParseKidRow.holds Try.pinned (OpenSpec.ofChange fnExactParseKidSpec)

/-- ITS FALSE NEIGHBOUR: 'it returns false'. Refute it at one input. -/
def fnExactParseKidWrong : ChangeSpec := { name := "fnExactParseKid", fn := fun _ => fun
  | [d1, d2] => { results := [.lit (.bool false)], args := [d1, d2] }
  | _ => none }
def FnExactParseKidWrongFalsely : Prop := fnExactParseKidRow.holds Try.pinned (OpenSpec.ofChange fnExactParseKidWrong)

/-- 'laws.FnExactDescriptionNames': WHATEVER THE INPUT: true; the input reads as it did. -/
def fnExactDescriptionNamesSpec : ChangeSpec := { name := "fnExactDescriptionNames", fn := fun _ => fun
  | [d] => { results := [.lit (.bool true)], args := [d] }
  | _ => none }
def fnExactDescriptionNamesRow : OpenClaim := { program := "ytcegbilfcblhfaa", sum := "6654e398734788a804639beb96002c9c23bc19a76b92d989ba4310e3eeddfab8", func := "loop.example/g00518/laws.FnExactDescriptionNames", spec := "fnExactDescriptionNames", apart := false }
def FnExactDescriptionNamesSaid : Prop := fnExactDescriptionNamesRow.holds Try.pinned (OpenSpec.ofChange fnExactDescriptionNamesSpec)

/-- ITS FALSE NEIGHBOUR: 'it returns false'. Refute it at one input. -/
def fnExactDescriptionNamesWrong : ChangeSpec := { name := "fnExactDescriptionNames", fn := fun _ => fun
  | [d] => { results := [.lit (.bool false)], args := [d] }
  | _ => none }
def FnExactDescriptionNamesWrongFalsely : Prop := fnExactDescriptionNamesRow.holds Try.pinned (OpenSpec.ofChange fnExactDescriptionNamesWrong)

/-- 'laws.FnExactEqualDescriptions': WHATEVER THE INPUT: true; the input reads as it did. -/
def fnExactEqualDescriptionsSpec : ChangeSpec := { name := "fnExactEqualDescriptions", fn := fun _ => fun
  | [d1, d2] => { results := [.lit (.bool true)], args := [d1, d2] }
  | _ => none }
def fnExactEqualDescriptionsRow : OpenClaim := { program := "ytcegbilfcblhfaa", sum := "6654e398734788a804639beb96002c9c23bc19a76b92d989ba4310e3eeddfab8", func := "loop.example/g00518/laws.FnExactEqualDescriptions", spec := "fnExactEqualDescriptions", apart := false }
def FnExactEqualDescriptionsSaid : Prop := fnExactEqualDescriptionsRow.holds Try.pinned (OpenSpec.ofChange fnExactEqualDescriptionsSpec)

/-- ITS FALSE NEIGHBOUR: 'it returns false'. Refute it at one input. -/
def fnExactEqualDescriptionsWrong : ChangeSpec := { name := "fnExactEqualDescriptions", fn := fun _ => fun
  | [d1, d2] => { results := [.lit (.bool false)], args := [d1, d2] }
  | _ => none }
def FnExactEqualDescriptionsWrongFalsely : Prop := fnExactEqualDescriptionsRow.holds Try.pinned (OpenSpec.ofChange fnExactEqualDescriptionsWrong)

/-- 'laws.FnExactCopyDescription': WHATEVER THE INPUT: true; the input reads as it did. -/
def fnExactCopyDescriptionSpec : ChangeSpec := { name := "fnExactCopyDescription", fn := fun _ => fun
  | [d] => { results := [.lit (.bool true)], args := [d] }
  | _ => none }
def fnExactCopyDescriptionRow : OpenClaim := { program := "ytcegbilfcblhfaa", sum := "6654e398734788a804639beb96002c9c23bc19a76b92d989ba4310e3eeddfab8", func := "loop.example/g00518/laws.FnExactCopyDescription", spec := "fnExactCopyDescription", apart := false }
def FnExactCopyDescriptionSaid : Prop := fnExactCopyDescriptionRow.holds Try.pinned (OpenSpec.ofChange fnExactCopyDescriptionSpec)

/-- ITS FALSE NEIGHBOUR: 'it returns false'. Refute it at one input. -/
def fnExactCopyDescriptionWrong : ChangeSpec := { name := "fnExactCopyDescription", fn := fun _ => fun
  | [d] => { results := [.lit (.bool false)], args := [d] }
  | _ => none }
def FnExactCopyDescriptionWrongFalsely : Prop := fnExactCopyDescriptionRow.holds Try.pinned (OpenSpec.ofChange fnExactCopyDescriptionWrong)

/-- 'laws.FnExactIsValidRule': WHATEVER THE INPUT: true; the input reads as it did. -/
def fnExactIsValidRuleSpec : ChangeSpec := { name := "fnExactIsValidRule", fn := fun _ => fun
  | [d1, d2] => { results := [.lit (.bool true)], args := [d1, d2] }
  | _ => none }
def fnExactIsValidRuleRow : OpenClaim := { program := "ytcegbilfcblhfaa", sum := "6654e398734788a804639beb96002c9c23bc19a76b92d989ba4310e3eeddfab8", func := "loop.example/g00518/laws.FnExactIsValidRule", spec := "fnExactIsValidRule", apart := false }
def FnExactIsValidRuleSaid : Prop := fnExactIsValidRuleRow.holds Try.pinned (OpenSpec.ofChange fnExactIsValidRuleSpec)

/-- ITS FALSE NEIGHBOUR: 'it returns false'. Refute it at one input. -/
def fnExactIsValidRuleWrong : ChangeSpec := { name := "fnExactIsValidRule", fn := fun _ => fun
  | [d1, d2] => { results := [.lit (.bool false)], args := [d1, d2] }
  | _ => none }
def FnExactIsValidRuleWrongFalsely : Prop := fnExactIsValidRuleRow.holds Try.pinned (OpenSpec.ofChange fnExactIsValidRuleWrong)

/-- 'laws.FnExactIsValidDescription': WHATEVER THE INPUT: true; the input reads as it did. -/
def fnExactIsValidDescriptionSpec : ChangeSpec := { name := "fnExactIsValidDescription", fn := fun _ => fun
  | [d] => { results := [.lit (.bool true)], args := [d] }
  | _ => none }
def fnExactIsValidDescriptionRow : OpenClaim := { program := "ytcegbilfcblhfaa", sum := "6654e398734788a804639beb96002c9c23bc19a76b92d989ba4310e3eeddfab8", func := "loop.example/g00518/laws.FnExactIsValidDescription", spec := "fnExactIsValidDescription", apart := false }
def FnExactIsValidDescriptionSaid : Prop := fnExactIsValidDescriptionRow.holds Try.pinned (OpenSpec.ofChange fnExactIsValidDescriptionSpec)

/-- ITS FALSE NEIGHBOUR: 'it returns false'. Refute it at one input. -/
def fnExactIsValidDescriptionWrong : ChangeSpec := { name := "fnExactIsValidDescription", fn := fun _ => fun
  | [d] => { results := [.lit (.bool false)], args := [d] }
  | _ => none }
def FnExactIsValidDescriptionWrongFalsely : Prop := fnExactIsValidDescriptionRow.holds Try.pinned (OpenSpec.ofChange fnExactIsValidDescriptionWrong)

/-- 'laws.FnExactDepthOf': WHATEVER THE INPUT: true; the input reads as it did. -/
def fnExactDepthOfSpec : ChangeSpec := { name := "fnExactDepthOf", fn := fun _ => fun
  | [d1, d2] => { results := [.lit (.bool true)], args := [d1, d2] }
  | _ => none }
def fnExactDepthOfRow : OpenClaim := { program := "ytcegbilfcblhfaa", sum := "6654e398734788a804639beb96002c9c23bc19a76b92d989ba4310e3eeddfab8", func := "loop.example/g00518/laws.FnExactDepthOf", spec := "fnExactDepthOf", unfollowed := true, recurses := true, apart := false }
def FnExactDepthOfSaid : Prop := fnExactDepthOfRow.holds Try.pinned (OpenSpec.ofChange fnExactDepthOfSpec)

/-- ITS FALSE NEIGHBOUR: 'it returns false'. Refute it at one input. -/
def fnExactDepthOfWrong : ChangeSpec := { name := "fnExactDepthOf", fn := fun _ => fun
  | [d1, d2] => { results := [.lit (.bool false)], args := [d1, d2] }
  | _ => none }
def FnExactDepthOfWrongFalsely : Prop := fnExactDepthOfRow.holds Try.pinned (OpenSpec.ofChange fnExactDepthOfWrong)

/- THE SECOND FORM. 'bulk': how many values and letters a reading holds, each counted each time it is reached (what is shared counts as often as it is met; a slice's spare places count too). A statement '..UptoSaid' is the law's where the arguments, and the package variables that the reading takes, are together of bulk at most 1048576: NARROWER than '..Said'. Prove '..Said' where nothing that the law and all that it calls make is longer than what came in: it says more and counts as full. Else prove '..UptoSaid'. A law counts once. -/
mutual
def uptoBulk {H : Type} : DataW H → Nat
  | .lit (.string bytes) => bytes.length + 1
  | .lit _ => 1
  | .nil => 1
  | .ptr d => uptoBulk d + 1
  | .slice elems spare => uptoBulkAll elems + uptoBulkAll spare + 1
  | .agg parts => uptoBulkAll parts + 1
  | .iface _ d => uptoBulk d + 1
  | .map entries => uptoBulkEntries entries + 1
  | .held _ => 1
def uptoBulkAll {H : Type} : List (DataW H) → Nat
  | [] => 0
  | d :: r => uptoBulk d + uptoBulkAll r
def uptoBulkEntries {H : Type} : List (Lit × DataW H) → Nat
  | [] => 0
  | x :: r => uptoBulkEntry x + uptoBulkEntries r
def uptoBulkEntry {H : Type} : Lit × DataW H → Nat
  | (.string bytes, d) => bytes.length + uptoBulk d + 1
  | (_, d) => uptoBulk d + 1
 end
def uptoSmall : (H : Type) → List (DataW H) → Bool := fun _ ds => decide (uptoBulkAll ds ≤ 1048576)
def OpenSpec.upto (s : _root_.Go.ChangeSpec) : _root_.Go.OpenSpec := { _root_.Go.OpenSpec.ofChange s with cond := some uptoSmall }

/-- 'laws.FnExactRootOf', WHERE WHAT IT READS IS OF BULK AT MOST 1048576: true; the input reads as it did. -/
def fnExactRootOfUptoRow : OpenClaim := { program := "ytcegbilfcblhfaa", sum := "6654e398734788a804639beb96002c9c23bc19a76b92d989ba4310e3eeddfab8", func := "loop.example/g00518/laws.FnExactRootOf", spec := "fnExactRootOf", apart := false, narrowed := true }
def FnExactRootOfUptoSaid : Prop := fnExactRootOfUptoRow.holds Try.pinned (OpenSpec.upto fnExactRootOfSpec)

/-- 'laws.FnExactKidName', WHERE WHAT IT READS IS OF BULK AT MOST 1048576: true; the input reads as it did. -/
def fnExactKidNameUptoRow : OpenClaim := { program := "ytcegbilfcblhfaa", sum := "6654e398734788a804639beb96002c9c23bc19a76b92d989ba4310e3eeddfab8", func := "loop.example/g00518/laws.FnExactKidName", spec := "fnExactKidName", apart := false, narrowed := true }
def FnExactKidNameUptoSaid : Prop := fnExactKidNameUptoRow.holds Try.pinned (OpenSpec.upto fnExactKidNameSpec)

/-- 'laws.FnExactFindRule', WHERE WHAT IT READS IS OF BULK AT MOST 1048576: true; the input reads as it did. -/
def fnExactFindRuleUptoRow : OpenClaim := { program := "ytcegbilfcblhfaa", sum := "6654e398734788a804639beb96002c9c23bc19a76b92d989ba4310e3eeddfab8", func := "loop.example/g00518/laws.FnExactFindRule", spec := "fnExactFindRule", apart := false, narrowed := true }
def FnExactFindRuleUptoSaid : Prop := fnExactFindRuleUptoRow.holds Try.pinned (OpenSpec.upto fnExactFindRuleSpec)

/-- 'laws.FnExactIntegerLimit', WHERE WHAT IT READS IS OF BULK AT MOST 1048576: true; the input reads as it did. -/
def fnExactIntegerLimitUptoRow : OpenClaim := { program := "ytcegbilfcblhfaa", sum := "6654e398734788a804639beb96002c9c23bc19a76b92d989ba4310e3eeddfab8", func := "loop.example/g00518/laws.FnExactIntegerLimit", spec := "fnExactIntegerLimit", apart := false, narrowed := true }
def FnExactIntegerLimitUptoSaid : Prop := fnExactIntegerLimitUptoRow.holds Try.pinned (OpenSpec.upto fnExactIntegerLimitSpec)

/-- 'laws.FnExactCountKind', WHERE WHAT IT READS IS OF BULK AT MOST 1048576: true; the input reads as it did. -/
def fnExactCountKindUptoRow : OpenClaim := { program := "ytcegbilfcblhfaa", sum := "6654e398734788a804639beb96002c9c23bc19a76b92d989ba4310e3eeddfab8", func := "loop.example/g00518/laws.FnExactCountKind", spec := "fnExactCountKind", apart := false, narrowed := true }
def FnExactCountKindUptoSaid : Prop := fnExactCountKindUptoRow.holds Try.pinned (OpenSpec.upto fnExactCountKindSpec)

/-- 'laws.FnExactParseKid', WHERE WHAT IT READS IS OF BULK AT MOST 1048576: true; the input reads as it did. -/
def fnExactParseKidUptoRow : OpenClaim := { program := "ytcegbilfcblhfaa", sum := "6654e398734788a804639beb96002c9c23bc19a76b92d989ba4310e3eeddfab8", func := "loop.example/g00518/laws.FnExactParseKid", spec := "fnExactParseKid", unfollowed := true, recurses := true, apart := false, narrowed := true }
def FnExactParseKidUptoSaid : Prop := fnExactParseKidUptoRow.holds Try.pinned (OpenSpec.upto fnExactParseKidSpec)

/-- 'laws.FnExactDescriptionNames', WHERE WHAT IT READS IS OF BULK AT MOST 1048576: true; the input reads as it did. -/
def fnExactDescriptionNamesUptoRow : OpenClaim := { program := "ytcegbilfcblhfaa", sum := "6654e398734788a804639beb96002c9c23bc19a76b92d989ba4310e3eeddfab8", func := "loop.example/g00518/laws.FnExactDescriptionNames", spec := "fnExactDescriptionNames", apart := false, narrowed := true }
def FnExactDescriptionNamesUptoSaid : Prop := fnExactDescriptionNamesUptoRow.holds Try.pinned (OpenSpec.upto fnExactDescriptionNamesSpec)

/-- 'laws.FnExactEqualDescriptions', WHERE WHAT IT READS IS OF BULK AT MOST 1048576: true; the input reads as it did. -/
def fnExactEqualDescriptionsUptoRow : OpenClaim := { program := "ytcegbilfcblhfaa", sum := "6654e398734788a804639beb96002c9c23bc19a76b92d989ba4310e3eeddfab8", func := "loop.example/g00518/laws.FnExactEqualDescriptions", spec := "fnExactEqualDescriptions", apart := false, narrowed := true }
def FnExactEqualDescriptionsUptoSaid : Prop := fnExactEqualDescriptionsUptoRow.holds Try.pinned (OpenSpec.upto fnExactEqualDescriptionsSpec)

/-- 'laws.FnExactCopyDescription', WHERE WHAT IT READS IS OF BULK AT MOST 1048576: true; the input reads as it did. -/
def fnExactCopyDescriptionUptoRow : OpenClaim := { program := "ytcegbilfcblhfaa", sum := "6654e398734788a804639beb96002c9c23bc19a76b92d989ba4310e3eeddfab8", func := "loop.example/g00518/laws.FnExactCopyDescription", spec := "fnExactCopyDescription", apart := false, narrowed := true }
def FnExactCopyDescriptionUptoSaid : Prop := fnExactCopyDescriptionUptoRow.holds Try.pinned (OpenSpec.upto fnExactCopyDescriptionSpec)

/-- 'laws.FnExactIsValidRule', WHERE WHAT IT READS IS OF BULK AT MOST 1048576: true; the input reads as it did. -/
def fnExactIsValidRuleUptoRow : OpenClaim := { program := "ytcegbilfcblhfaa", sum := "6654e398734788a804639beb96002c9c23bc19a76b92d989ba4310e3eeddfab8", func := "loop.example/g00518/laws.FnExactIsValidRule", spec := "fnExactIsValidRule", apart := false, narrowed := true }
def FnExactIsValidRuleUptoSaid : Prop := fnExactIsValidRuleUptoRow.holds Try.pinned (OpenSpec.upto fnExactIsValidRuleSpec)

/-- 'laws.FnExactIsValidDescription', WHERE WHAT IT READS IS OF BULK AT MOST 1048576: true; the input reads as it did. -/
def fnExactIsValidDescriptionUptoRow : OpenClaim := { program := "ytcegbilfcblhfaa", sum := "6654e398734788a804639beb96002c9c23bc19a76b92d989ba4310e3eeddfab8", func := "loop.example/g00518/laws.FnExactIsValidDescription", spec := "fnExactIsValidDescription", apart := false, narrowed := true }
def FnExactIsValidDescriptionUptoSaid : Prop := fnExactIsValidDescriptionUptoRow.holds Try.pinned (OpenSpec.upto fnExactIsValidDescriptionSpec)

/-- 'laws.FnExactDepthOf', WHERE WHAT IT READS IS OF BULK AT MOST 1048576: true; the input reads as it did. -/
def fnExactDepthOfUptoRow : OpenClaim := { program := "ytcegbilfcblhfaa", sum := "6654e398734788a804639beb96002c9c23bc19a76b92d989ba4310e3eeddfab8", func := "loop.example/g00518/laws.FnExactDepthOf", spec := "fnExactDepthOf", unfollowed := true, recurses := true, apart := false, narrowed := true }
def FnExactDepthOfUptoSaid : Prop := fnExactDepthOfUptoRow.holds Try.pinned (OpenSpec.upto fnExactDepthOfSpec)

end Rows
end Go.Proofs.Ytcegbilfcblhfaa
