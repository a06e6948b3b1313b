/-
  No cell of these rows narrows 'for every input' (looked for: loops, veiled, ifaces, maps, wideKeys, modest, calm, conditions, laid).
  DERIVED. THE GIVEN ROWS OF THIS SEAT. 7 by the template 'for every input the law returns true; each argument reads behind the call as it read before'; 0 by the template 'total and deterministic' (their statements: YtfdjamobfhoeiaaTotals.lean).
  GIVEN WITH THE SEED: the statements are not yours to turn. If you find one false, say at which input.
  Laid BY PROGRAM, IN A SANDBOX (cutbox-rows.mjs): the forced cells as the released guide's own fill.sh prints them over the translation d06e3de842366b51… (all of the seat's roots in one cut). By AI agents, Wed Nov 11 2026. No macro, syntax, notation, axiom, sorry.
-/
import Derived.Test.YtfdjamobfhoeiaaChecked
import GoSem.Claim
import GoSem.ClaimJoined
import GoSem.ClaimMapViews
import Derived.JoinedTies
import Derived.KernelRfl
namespace Go.Proofs.Ytfdjamobfhoeiaa
/- THE CELL 'sum', in the pinned program and in every row, IS THE sha256 OF THE DUMP (.gsa) THAT YtfdjamobfhoeiaaProg.lean LOADS. Nothing in Lean hashes anything: it is a label: what it is worth is what the hold of that sum in a sandbox is worth. -/
noncomputable def Try.pinned : Pinned := { name := "ytfdjamobfhoeiaa", sum := "d06e3de842366b51b493b685b245cd6fc56def7b53b4ac46e64bcd8e7420b39d", checked := Try.checked }
namespace Rows
def none {H : Type} : Left H := { results := [], args := [] }

/-- 'laws.FnExactIsComment': WHATEVER THE INPUT: true; the input reads as it did. -/
def fnExactIsCommentSpec : ChangeSpec := { name := "fnExactIsComment", fn := fun _ => fun
  | [d] => { results := [.lit (.bool true)], args := [d] }
  | _ => none }
def fnExactIsCommentRow : OpenClaim := { program := "ytfdjamobfhoeiaa", sum := "d06e3de842366b51b493b685b245cd6fc56def7b53b4ac46e64bcd8e7420b39d", func := "loop.example/g00518/laws.FnExactIsComment", spec := "fnExactIsComment", apart := false }
def FnExactIsCommentSaid : Prop := fnExactIsCommentRow.holds Try.pinned (OpenSpec.ofChange fnExactIsCommentSpec)

/-- ITS FALSE NEIGHBOUR: 'it returns false'. Refute it at one input. -/
def fnExactIsCommentWrong : ChangeSpec := { name := "fnExactIsComment", fn := fun _ => fun
  | [d] => { results := [.lit (.bool false)], args := [d] }
  | _ => none }
def FnExactIsCommentWrongFalsely : Prop := fnExactIsCommentRow.holds Try.pinned (OpenSpec.ofChange fnExactIsCommentWrong)

/-- 'laws.FnExactSplitText': WHATEVER THE INPUT: true; the input reads as it did. -/
def fnExactSplitTextSpec : ChangeSpec := { name := "fnExactSplitText", fn := fun _ => fun
  | [d1, d2] => { results := [.lit (.bool true)], args := [d1, d2] }
  | _ => none }
def fnExactSplitTextRow : OpenClaim := { program := "ytfdjamobfhoeiaa", sum := "d06e3de842366b51b493b685b245cd6fc56def7b53b4ac46e64bcd8e7420b39d", func := "loop.example/g00518/laws.FnExactSplitText", spec := "fnExactSplitText", apart := false }
def FnExactSplitTextSaid : Prop := fnExactSplitTextRow.holds Try.pinned (OpenSpec.ofChange fnExactSplitTextSpec)

/-- ITS FALSE NEIGHBOUR: 'it returns false'. Refute it at one input. -/
def fnExactSplitTextWrong : ChangeSpec := { name := "fnExactSplitText", fn := fun _ => fun
  | [d1, d2] => { results := [.lit (.bool false)], args := [d1, d2] }
  | _ => none }
def FnExactSplitTextWrongFalsely : Prop := fnExactSplitTextRow.holds Try.pinned (OpenSpec.ofChange fnExactSplitTextWrong)

/-- 'laws.FnExactSplitLines': WHATEVER THE INPUT: true; the input reads as it did. -/
def fnExactSplitLinesSpec : ChangeSpec := { name := "fnExactSplitLines", fn := fun _ => fun
  | [d] => { results := [.lit (.bool true)], args := [d] }
  | _ => none }
def fnExactSplitLinesRow : OpenClaim := { program := "ytfdjamobfhoeiaa", sum := "d06e3de842366b51b493b685b245cd6fc56def7b53b4ac46e64bcd8e7420b39d", func := "loop.example/g00518/laws.FnExactSplitLines", spec := "fnExactSplitLines", apart := false }
def FnExactSplitLinesSaid : Prop := fnExactSplitLinesRow.holds Try.pinned (OpenSpec.ofChange fnExactSplitLinesSpec)

/-- ITS FALSE NEIGHBOUR: 'it returns false'. Refute it at one input. -/
def fnExactSplitLinesWrong : ChangeSpec := { name := "fnExactSplitLines", fn := fun _ => fun
  | [d] => { results := [.lit (.bool false)], args := [d] }
  | _ => none }
def FnExactSplitLinesWrongFalsely : Prop := fnExactSplitLinesRow.holds Try.pinned (OpenSpec.ofChange fnExactSplitLinesWrong)

/-- 'laws.FnExactWords': WHATEVER THE INPUT: true; the input reads as it did. -/
def fnExactWordsSpec : ChangeSpec := { name := "fnExactWords", fn := fun _ => fun
  | [d] => { results := [.lit (.bool true)], args := [d] }
  | _ => none }
def fnExactWordsRow : OpenClaim := { program := "ytfdjamobfhoeiaa", sum := "d06e3de842366b51b493b685b245cd6fc56def7b53b4ac46e64bcd8e7420b39d", func := "loop.example/g00518/laws.FnExactWords", spec := "fnExactWords", apart := false }
def FnExactWordsSaid : Prop := fnExactWordsRow.holds Try.pinned (OpenSpec.ofChange fnExactWordsSpec)

/-- ITS FALSE NEIGHBOUR: 'it returns false'. Refute it at one input. -/
def fnExactWordsWrong : ChangeSpec := { name := "fnExactWords", fn := fun _ => fun
  | [d] => { results := [.lit (.bool false)], args := [d] }
  | _ => none }
def FnExactWordsWrongFalsely : Prop := fnExactWordsRow.holds Try.pinned (OpenSpec.ofChange fnExactWordsWrong)

/-- 'laws.FnExactCountRuleLines': WHATEVER THE INPUT: true; the input reads as it did. -/
def fnExactCountRuleLinesSpec : ChangeSpec := { name := "fnExactCountRuleLines", fn := fun _ => fun
  | [d] => { results := [.lit (.bool true)], args := [d] }
  | _ => none }
def fnExactCountRuleLinesRow : OpenClaim := { program := "ytfdjamobfhoeiaa", sum := "d06e3de842366b51b493b685b245cd6fc56def7b53b4ac46e64bcd8e7420b39d", func := "loop.example/g00518/laws.FnExactCountRuleLines", spec := "fnExactCountRuleLines", apart := false }
def FnExactCountRuleLinesSaid : Prop := fnExactCountRuleLinesRow.holds Try.pinned (OpenSpec.ofChange fnExactCountRuleLinesSpec)

/-- ITS FALSE NEIGHBOUR: 'it returns false'. Refute it at one input. -/
def fnExactCountRuleLinesWrong : ChangeSpec := { name := "fnExactCountRuleLines", fn := fun _ => fun
  | [d] => { results := [.lit (.bool false)], args := [d] }
  | _ => none }
def FnExactCountRuleLinesWrongFalsely : Prop := fnExactCountRuleLinesRow.holds Try.pinned (OpenSpec.ofChange fnExactCountRuleLinesWrong)

/-- 'laws.FnExactJoinText': WHATEVER THE INPUT: true; the input reads as it did. -/
def fnExactJoinTextSpec : ChangeSpec := { name := "fnExactJoinText", fn := fun _ => fun
  | [d1, d2] => { results := [.lit (.bool true)], args := [d1, d2] }
  | _ => none }
def fnExactJoinTextRow : OpenClaim := { program := "ytfdjamobfhoeiaa", sum := "d06e3de842366b51b493b685b245cd6fc56def7b53b4ac46e64bcd8e7420b39d", func := "loop.example/g00518/laws.FnExactJoinText", spec := "fnExactJoinText", inPlace := ["internal/abi.NoEscape", "internal/bytealg.MakeNoZero"], apart := false }
def FnExactJoinTextSaid : Prop := fnExactJoinTextRow.holds Try.pinned (OpenSpec.ofChange fnExactJoinTextSpec)

/-- ITS FALSE NEIGHBOUR: 'it returns false'. Refute it at one input. -/
def fnExactJoinTextWrong : ChangeSpec := { name := "fnExactJoinText", fn := fun _ => fun
  | [d1, d2] => { results := [.lit (.bool false)], args := [d1, d2] }
  | _ => none }
def FnExactJoinTextWrongFalsely : Prop := fnExactJoinTextRow.holds Try.pinned (OpenSpec.ofChange fnExactJoinTextWrong)

/-- 'laws.FnTexts': WHATEVER THE INPUT: true; the input reads as it did. -/
def fnTextsSpec : ChangeSpec := { name := "fnTexts", fn := fun _ => fun
  | [d] => { results := [.lit (.bool true)], args := [d] }
  | _ => none }
def fnTextsRow : OpenClaim := { program := "ytfdjamobfhoeiaa", sum := "d06e3de842366b51b493b685b245cd6fc56def7b53b4ac46e64bcd8e7420b39d", func := "loop.example/g00518/laws.FnTexts", spec := "fnTexts", inPlace := ["internal/bytealg.IndexByteString", "internal/abi.NoEscape", "internal/bytealg.MakeNoZero"], apart := false }
def FnTextsSaid : Prop := fnTextsRow.holds Try.pinned (OpenSpec.ofChange fnTextsSpec)

/-- ITS FALSE NEIGHBOUR: 'it returns false'. Refute it at one input. -/
def fnTextsWrong : ChangeSpec := { name := "fnTexts", fn := fun _ => fun
  | [d] => { results := [.lit (.bool false)], args := [d] }
  | _ => none }
def FnTextsWrongFalsely : Prop := fnTextsRow.holds Try.pinned (OpenSpec.ofChange fnTextsWrong)

/- THE SECOND FORM. 'bulk': how many values and letters a reading holds, each counted each time it is reached (what is shared counts as often as it is met; a slice's spare places count too). A statement '..UptoSaid' is the law's where the arguments, and the package variables that the reading takes, are together of bulk at most 1048576: NARROWER than '..Said'. Prove '..Said' where nothing that the law and all that it calls make is longer than what came in: it says more and counts as full. Else prove '..UptoSaid'. A law counts once. -/
mutual
def uptoBulk {H : Type} : DataW H → Nat
  | .lit (.string bytes) => bytes.length + 1
  | .lit _ => 1
  | .nil => 1
  | .ptr d => uptoBulk d + 1
  | .slice elems spare => uptoBulkAll elems + uptoBulkAll spare + 1
  | .agg parts => uptoBulkAll parts + 1
  | .iface _ d => uptoBulk d + 1
  | .map entries => uptoBulkEntries entries + 1
  | .held _ => 1
def uptoBulkAll {H : Type} : List (DataW H) → Nat
  | [] => 0
  | d :: r => uptoBulk d + uptoBulkAll r
def uptoBulkEntries {H : Type} : List (Lit × DataW H) → Nat
  | [] => 0
  | x :: r => uptoBulkEntry x + uptoBulkEntries r
def uptoBulkEntry {H : Type} : Lit × DataW H → Nat
  | (.string bytes, d) => bytes.length + uptoBulk d + 1
  | (_, d) => uptoBulk d + 1
 end
def uptoSmall : (H : Type) → List (DataW H) → Bool := fun _ ds => decide (uptoBulkAll ds ≤ 1048576)
def OpenSpec.upto (s : _root_.Go.ChangeSpec) : _root_.Go.OpenSpec := { _root_.Go.OpenSpec.ofChange s with cond := some uptoSmall }

/-- 'laws.FnExactIsComment', WHERE WHAT IT READS IS OF BULK AT MOST 1048576: true; the input reads as it did. -/
def fnExactIsCommentUptoRow : OpenClaim := { program := "ytfdjamobfhoeiaa", sum := "d06e3de842366b51b493b685b245cd6fc56def7b53b4ac46e64bcd8e7420b39d", func := "loop.example/g00518/laws.FnExactIsComment", spec := "fnExactIsComment", apart := false, narrowed := true }
def FnExactIsCommentUptoSaid : Prop := fnExactIsCommentUptoRow.holds Try.pinned (OpenSpec.upto fnExactIsCommentSpec)

/-- 'laws.FnExactSplitText', WHERE WHAT IT READS IS OF BULK AT MOST 1048576: true; the input reads as it did. -/
def fnExactSplitTextUptoRow : OpenClaim := { program := "ytfdjamobfhoeiaa", sum := "d06e3de842366b51b493b685b245cd6fc56def7b53b4ac46e64bcd8e7420b39d", func := "loop.example/g00518/laws.FnExactSplitText", spec := "fnExactSplitText", apart := false, narrowed := true }
def FnExactSplitTextUptoSaid : Prop := fnExactSplitTextUptoRow.holds Try.pinned (OpenSpec.upto fnExactSplitTextSpec)

/-- 'laws.FnExactSplitLines', WHERE WHAT IT READS IS OF BULK AT MOST 1048576: true; the input reads as it did. -/
def fnExactSplitLinesUptoRow : OpenClaim := { program := "ytfdjamobfhoeiaa", sum := "d06e3de842366b51b493b685b245cd6fc56def7b53b4ac46e64bcd8e7420b39d", func := "loop.example/g00518/laws.FnExactSplitLines", spec := "fnExactSplitLines", apart := false, narrowed := true }
def FnExactSplitLinesUptoSaid : Prop := fnExactSplitLinesUptoRow.holds Try.pinned (OpenSpec.upto fnExactSplitLinesSpec)

/-- 'laws.FnExactWords', WHERE WHAT IT READS IS OF BULK AT MOST 1048576: true; the input reads as it did. -/
def fnExactWordsUptoRow : OpenClaim := { program := "ytfdjamobfhoeiaa", sum := "d06e3de842366b51b493b685b245cd6fc56def7b53b4ac46e64bcd8e7420b39d", func := "loop.example/g00518/laws.FnExactWords", spec := "fnExactWords", apart := false, narrowed := true }
def FnExactWordsUptoSaid : Prop := fnExactWordsUptoRow.holds Try.pinned (OpenSpec.upto fnExactWordsSpec)

/-- 'laws.FnExactCountRuleLines', WHERE WHAT IT READS IS OF BULK AT MOST 1048576: true; the input reads as it did. -/
def fnExactCountRuleLinesUptoRow : OpenClaim := { program := "ytfdjamobfhoeiaa", sum := "d06e3de842366b51b493b685b245cd6fc56def7b53b4ac46e64bcd8e7420b39d", func := "loop.example/g00518/laws.FnExactCountRuleLines", spec := "fnExactCountRuleLines", apart := false, narrowed := true }
def FnExactCountRuleLinesUptoSaid : Prop := fnExactCountRuleLinesUptoRow.holds Try.pinned (OpenSpec.upto fnExactCountRuleLinesSpec)

/-- 'laws.FnExactJoinText', WHERE WHAT IT READS IS OF BULK AT MOST 1048576: true; the input reads as it did. -/
def fnExactJoinTextUptoRow : OpenClaim := { program := "ytfdjamobfhoeiaa", sum := "d06e3de842366b51b493b685b245cd6fc56def7b53b4ac46e64bcd8e7420b39d", func := "loop.example/g00518/laws.FnExactJoinText", spec := "fnExactJoinText", inPlace := ["internal/abi.NoEscape", "internal/bytealg.MakeNoZero"], apart := false, narrowed := true }
def FnExactJoinTextUptoSaid : Prop := fnExactJoinTextUptoRow.holds Try.pinned (OpenSpec.upto fnExactJoinTextSpec)

/-- 'laws.FnTexts', WHERE WHAT IT READS IS OF BULK AT MOST 1048576: true; the input reads as it did. -/
def fnTextsUptoRow : OpenClaim := { program := "ytfdjamobfhoeiaa", sum := "d06e3de842366b51b493b685b245cd6fc56def7b53b4ac46e64bcd8e7420b39d", func := "loop.example/g00518/laws.FnTexts", spec := "fnTexts", inPlace := ["internal/bytealg.IndexByteString", "internal/abi.NoEscape", "internal/bytealg.MakeNoZero"], apart := false, narrowed := true }
def FnTextsUptoSaid : Prop := fnTextsUptoRow.holds Try.pinned (OpenSpec.upto fnTextsSpec)

end Rows
end Go.Proofs.Ytfdjamobfhoeiaa
