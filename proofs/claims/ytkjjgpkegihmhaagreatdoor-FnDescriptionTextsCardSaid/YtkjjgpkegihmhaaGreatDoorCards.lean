/-
  DERIVED. GIVEN WITH THE SEED: THE CARDS: each row of YtkjjgpkegihmhaaGreatDoorRows.lean that lists a variable, with what it lists TIED to the program's text (the seventh form; the later family's looks); each row that meets fmt, with fmt's text TOLD by the authors' own Lean function (tested against real Go, not proved from fmt's source: count such statements apart). THE CARD IS WHAT COUNTS. Prove the row's statement (the work); the ties are given (YtkjjgpkegihmhaaGreatDoorTie.lean); close each card by the builder's one call (the guide's Derived/Test/ToyasCard.lean, 'card_holds'). Laid BY PROGRAM, IN A SANDBOX (cutbox-door.mjs). By AI agents, Wed Nov 11 2026. No macro, syntax, notation, axiom, sorry.
-/
import Derived.Test.YtkjjgpkegihmhaaGreatDoorRows
import GoSem.ClaimSeven
namespace Go.Proofs.YtkjjgpkegihmhaaGreatDoor
namespace Rows

/-- THE TIED CARD OF 'laws.FnExactParseRule'. -/
def fnExactParseRuleCard : Claim7 := { stood := { row := fnExactParseRuleRow, standIns := [], harness := (true, "3ee61c062ed0f733cd9cd9eacd36c6e7af2c6c6d928299e06ca1a18e77d61b93"), looks := false }, kinds := [], alts := [], laidByText := true, laidKinds := [.data, .data, .data], laidTests := true, laidLooks := .later }
def FnExactParseRuleCardSaid : Prop := Claim7.holds Tryz.pinned (.plain (OpenSpec.ofChange fnExactParseRuleSpec)) fnExactParseRuleCard

/-- THE TIED CARD OF 'laws.FnExactAddRule'. -/
def fnExactAddRuleCard : Claim7 := { stood := { row := fnExactAddRuleRow, standIns := [], harness := (true, "3ee61c062ed0f733cd9cd9eacd36c6e7af2c6c6d928299e06ca1a18e77d61b93"), looks := false }, kinds := [], alts := [], laidByText := true, laidKinds := [.data, .data, .data], laidTests := true, laidLooks := .later }
def FnExactAddRuleCardSaid : Prop := Claim7.holds Tryz.pinned (.plain (OpenSpec.ofChange fnExactAddRuleSpec)) fnExactAddRuleCard

/-- THE TIED CARD OF 'laws.FnExactParseDescription'. -/
def fnExactParseDescriptionCard : Claim7 := { stood := { row := fnExactParseDescriptionRow, standIns := [], harness := (true, "3ee61c062ed0f733cd9cd9eacd36c6e7af2c6c6d928299e06ca1a18e77d61b93"), looks := false }, kinds := [], alts := [], laidByText := true, laidKinds := [.data, .data, .data], laidTests := true, laidLooks := .later }
def FnExactParseDescriptionCardSaid : Prop := Claim7.holds Tryz.pinned (.plain (OpenSpec.ofChange fnExactParseDescriptionSpec)) fnExactParseDescriptionCard

/-- THE TIED CARD OF 'laws.FnExactNormalizeText'. -/
def fnExactNormalizeTextCard : Claim7 := { stood := { row := fnExactNormalizeTextRow, standIns := [], harness := (true, "3ee61c062ed0f733cd9cd9eacd36c6e7af2c6c6d928299e06ca1a18e77d61b93"), looks := false }, kinds := [], alts := [], laidByText := true, laidKinds := [.data, .data, .data], laidTests := true, laidLooks := .later }
def FnExactNormalizeTextCardSaid : Prop := Claim7.holds Tryz.pinned (.plain (OpenSpec.ofChange fnExactNormalizeTextSpec)) fnExactNormalizeTextCard

/-- THE TIED CARD OF 'laws.FnDescriptionTexts'. -/
def fnDescriptionTextsCard : Claim7 := { stood := { row := fnDescriptionTextsRow, standIns := [], harness := (true, "3ee61c062ed0f733cd9cd9eacd36c6e7af2c6c6d928299e06ca1a18e77d61b93"), looks := false }, kinds := [], alts := [], laidByText := true, laidKinds := [.data, .data, .data], laidTests := true, laidLooks := .later }
def FnDescriptionTextsCardSaid : Prop := Claim7.holds Tryz.pinned (.plain (OpenSpec.ofChange fnDescriptionTextsSpec)) fnDescriptionTextsCard

/-- THE SECOND FORM's CARD OF 'laws.FnExactParseRule'. -/
def fnExactParseRuleUptoCard : Claim7 := { stood := { row := fnExactParseRuleUptoRow, standIns := [], harness := (true, "3ee61c062ed0f733cd9cd9eacd36c6e7af2c6c6d928299e06ca1a18e77d61b93"), looks := false }, kinds := [], alts := [], laidByText := true, laidKinds := [.data, .data, .data], laidTests := true, laidLooks := .later }
def FnExactParseRuleUptoCardSaid : Prop := Claim7.holds Tryz.pinned (.plain (OpenSpec.upto fnExactParseRuleSpec)) fnExactParseRuleUptoCard

/-- THE SECOND FORM's CARD OF 'laws.FnExactAddRule'. -/
def fnExactAddRuleUptoCard : Claim7 := { stood := { row := fnExactAddRuleUptoRow, standIns := [], harness := (true, "3ee61c062ed0f733cd9cd9eacd36c6e7af2c6c6d928299e06ca1a18e77d61b93"), looks := false }, kinds := [], alts := [], laidByText := true, laidKinds := [.data, .data, .data], laidTests := true, laidLooks := .later }
def FnExactAddRuleUptoCardSaid : Prop := Claim7.holds Tryz.pinned (.plain (OpenSpec.upto fnExactAddRuleSpec)) fnExactAddRuleUptoCard

/-- THE SECOND FORM's CARD OF 'laws.FnExactParseDescription'. -/
def fnExactParseDescriptionUptoCard : Claim7 := { stood := { row := fnExactParseDescriptionUptoRow, standIns := [], harness := (true, "3ee61c062ed0f733cd9cd9eacd36c6e7af2c6c6d928299e06ca1a18e77d61b93"), looks := false }, kinds := [], alts := [], laidByText := true, laidKinds := [.data, .data, .data], laidTests := true, laidLooks := .later }
def FnExactParseDescriptionUptoCardSaid : Prop := Claim7.holds Tryz.pinned (.plain (OpenSpec.upto fnExactParseDescriptionSpec)) fnExactParseDescriptionUptoCard

/-- THE SECOND FORM's CARD OF 'laws.FnExactNormalizeText'. -/
def fnExactNormalizeTextUptoCard : Claim7 := { stood := { row := fnExactNormalizeTextUptoRow, standIns := [], harness := (true, "3ee61c062ed0f733cd9cd9eacd36c6e7af2c6c6d928299e06ca1a18e77d61b93"), looks := false }, kinds := [], alts := [], laidByText := true, laidKinds := [.data, .data, .data], laidTests := true, laidLooks := .later }
def FnExactNormalizeTextUptoCardSaid : Prop := Claim7.holds Tryz.pinned (.plain (OpenSpec.upto fnExactNormalizeTextSpec)) fnExactNormalizeTextUptoCard

/-- THE SECOND FORM's CARD OF 'laws.FnDescriptionTexts'. -/
def fnDescriptionTextsUptoCard : Claim7 := { stood := { row := fnDescriptionTextsUptoRow, standIns := [], harness := (true, "3ee61c062ed0f733cd9cd9eacd36c6e7af2c6c6d928299e06ca1a18e77d61b93"), looks := false }, kinds := [], alts := [], laidByText := true, laidKinds := [.data, .data, .data], laidTests := true, laidLooks := .later }
def FnDescriptionTextsUptoCardSaid : Prop := Claim7.holds Tryz.pinned (.plain (OpenSpec.upto fnDescriptionTextsSpec)) fnDescriptionTextsUptoCard
end Rows
end Go.Proofs.YtkjjgpkegihmhaaGreatDoor
