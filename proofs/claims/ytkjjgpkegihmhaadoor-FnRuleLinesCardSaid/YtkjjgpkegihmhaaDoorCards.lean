/-
  DERIVED. GIVEN WITH THE SEED: THE CARDS: each row of YtkjjgpkegihmhaaDoorRows.lean that lists a variable, with what it lists TIED to the program's text (the seventh form; the later family's looks); each row that meets fmt, with fmt's text TOLD by the authors' own Lean function (tested against real Go, not proved from fmt's source: count such statements apart). THE CARD IS WHAT COUNTS. Prove the row's statement (the work); the ties are given (YtkjjgpkegihmhaaDoorTie.lean); close each card by the builder's one call (the guide's Derived/Test/ToyasCard.lean, 'card_holds'). Laid BY PROGRAM, IN A SANDBOX (cutbox-door.mjs). By AI agents, Wed Nov 11 2026. No macro, syntax, notation, axiom, sorry.
-/
import Derived.Test.YtkjjgpkegihmhaaDoorRows
import GoSem.ClaimSeven
namespace Go.Proofs.YtkjjgpkegihmhaaDoor
namespace Rows

/-- THE TIED CARD OF 'laws.FnExactFormatRule'. -/
def fnExactFormatRuleCard : Claim7 := { stood := { row := fnExactFormatRuleRow, standIns := [], harness := (true, "e66f19d88d7ca213af91e94838d2782af32568a01668dcd77fa132b4dd646ead"), looks := false }, kinds := [], alts := [], laidByText := true, laidKinds := [.data, .data, .data], laidTests := true, laidLooks := .later }
def FnExactFormatRuleCardSaid : Prop := Claim7.holds Tryd.pinned (.plain (OpenSpec.ofChange fnExactFormatRuleSpec)) fnExactFormatRuleCard

/-- THE TIED CARD OF 'laws.FnExactLongestLine'. -/
def fnExactLongestLineCard : Claim7 := { stood := { row := fnExactLongestLineRow, standIns := [], harness := (true, "e66f19d88d7ca213af91e94838d2782af32568a01668dcd77fa132b4dd646ead"), looks := false }, kinds := [], alts := [], laidByText := true, laidKinds := [.data, .data, .data], laidTests := true, laidLooks := .later }
def FnExactLongestLineCardSaid : Prop := Claim7.holds Tryd.pinned (.plain (OpenSpec.ofChange fnExactLongestLineSpec)) fnExactLongestLineCard

/-- THE TIED CARD OF 'laws.FnExactFormatDescription'. -/
def fnExactFormatDescriptionCard : Claim7 := { stood := { row := fnExactFormatDescriptionRow, standIns := [], harness := (true, "e66f19d88d7ca213af91e94838d2782af32568a01668dcd77fa132b4dd646ead"), looks := false }, kinds := [], alts := [], laidByText := true, laidKinds := [.data, .data, .data], laidTests := true, laidLooks := .later }
def FnExactFormatDescriptionCardSaid : Prop := Claim7.holds Tryd.pinned (.plain (OpenSpec.ofChange fnExactFormatDescriptionSpec)) fnExactFormatDescriptionCard

/-- THE TIED CARD OF 'laws.FnWrittenRules'. -/
def fnWrittenRulesCard : Claim7 := { stood := { row := fnWrittenRulesRow, standIns := [], harness := (true, "e66f19d88d7ca213af91e94838d2782af32568a01668dcd77fa132b4dd646ead"), looks := false }, kinds := [], alts := [], laidByText := true, laidKinds := [.data, .data, .data], laidTests := true, laidLooks := .later }
def FnWrittenRulesCardSaid : Prop := Claim7.holds Tryd.pinned (.plain (OpenSpec.ofChange fnWrittenRulesSpec)) fnWrittenRulesCard

/-- THE TIED CARD OF 'laws.FnRuleLines'. -/
def fnRuleLinesCard : Claim7 := { stood := { row := fnRuleLinesRow, standIns := [], harness := (true, "e66f19d88d7ca213af91e94838d2782af32568a01668dcd77fa132b4dd646ead"), looks := false }, kinds := [], alts := [], laidByText := true, laidKinds := [.data, .data, .data], laidTests := true, laidLooks := .later }
def FnRuleLinesCardSaid : Prop := Claim7.holds Tryd.pinned (.plain (OpenSpec.ofChange fnRuleLinesSpec)) fnRuleLinesCard

/-- THE SECOND FORM's CARD OF 'laws.FnExactFormatRule'. -/
def fnExactFormatRuleUptoCard : Claim7 := { stood := { row := fnExactFormatRuleUptoRow, standIns := [], harness := (true, "e66f19d88d7ca213af91e94838d2782af32568a01668dcd77fa132b4dd646ead"), looks := false }, kinds := [], alts := [], laidByText := true, laidKinds := [.data, .data, .data], laidTests := true, laidLooks := .later }
def FnExactFormatRuleUptoCardSaid : Prop := Claim7.holds Tryd.pinned (.plain (OpenSpec.upto fnExactFormatRuleSpec)) fnExactFormatRuleUptoCard

/-- THE SECOND FORM's CARD OF 'laws.FnExactLongestLine'. -/
def fnExactLongestLineUptoCard : Claim7 := { stood := { row := fnExactLongestLineUptoRow, standIns := [], harness := (true, "e66f19d88d7ca213af91e94838d2782af32568a01668dcd77fa132b4dd646ead"), looks := false }, kinds := [], alts := [], laidByText := true, laidKinds := [.data, .data, .data], laidTests := true, laidLooks := .later }
def FnExactLongestLineUptoCardSaid : Prop := Claim7.holds Tryd.pinned (.plain (OpenSpec.upto fnExactLongestLineSpec)) fnExactLongestLineUptoCard

/-- THE SECOND FORM's CARD OF 'laws.FnExactFormatDescription'. -/
def fnExactFormatDescriptionUptoCard : Claim7 := { stood := { row := fnExactFormatDescriptionUptoRow, standIns := [], harness := (true, "e66f19d88d7ca213af91e94838d2782af32568a01668dcd77fa132b4dd646ead"), looks := false }, kinds := [], alts := [], laidByText := true, laidKinds := [.data, .data, .data], laidTests := true, laidLooks := .later }
def FnExactFormatDescriptionUptoCardSaid : Prop := Claim7.holds Tryd.pinned (.plain (OpenSpec.upto fnExactFormatDescriptionSpec)) fnExactFormatDescriptionUptoCard

/-- THE SECOND FORM's CARD OF 'laws.FnWrittenRules'. -/
def fnWrittenRulesUptoCard : Claim7 := { stood := { row := fnWrittenRulesUptoRow, standIns := [], harness := (true, "e66f19d88d7ca213af91e94838d2782af32568a01668dcd77fa132b4dd646ead"), looks := false }, kinds := [], alts := [], laidByText := true, laidKinds := [.data, .data, .data], laidTests := true, laidLooks := .later }
def FnWrittenRulesUptoCardSaid : Prop := Claim7.holds Tryd.pinned (.plain (OpenSpec.upto fnWrittenRulesSpec)) fnWrittenRulesUptoCard

/-- THE SECOND FORM's CARD OF 'laws.FnRuleLines'. -/
def fnRuleLinesUptoCard : Claim7 := { stood := { row := fnRuleLinesUptoRow, standIns := [], harness := (true, "e66f19d88d7ca213af91e94838d2782af32568a01668dcd77fa132b4dd646ead"), looks := false }, kinds := [], alts := [], laidByText := true, laidKinds := [.data, .data, .data], laidTests := true, laidLooks := .later }
def FnRuleLinesUptoCardSaid : Prop := Claim7.holds Tryd.pinned (.plain (OpenSpec.upto fnRuleLinesSpec)) fnRuleLinesUptoCard
end Rows
end Go.Proofs.YtkjjgpkegihmhaaDoor
