/-
  DERIVED. GIVEN WITH THE SEED: THE CARDS: each row of YtkieniphnglaaaaGreatDoorRows.lean that lists a variable, with what it lists TIED to the program's text (the seventh form; the later family's looks); each row that meets fmt, with fmt's text TOLD by the authors' own Lean function (tested against real Go, not proved from fmt's source: count such statements apart). THE CARD IS WHAT COUNTS. Prove the row's statement (the work); the ties are given (YtkieniphnglaaaaGreatDoorTie.lean); close each card by the builder's one call (the guide's Derived/Test/ToyasCard.lean, 'card_holds'). Laid BY PROGRAM, IN A SANDBOX (cutbox-door.mjs). By AI agents, Wed Nov 11 2026. No macro, syntax, notation, axiom, sorry.
-/
import Derived.Test.YtkieniphnglaaaaGreatDoorRows
import GoSem.ClaimSeven
namespace Go.Proofs.YtkieniphnglaaaaGreatDoor
namespace Rows

/-- THE TIED CARD OF 'ceilinglaw03.ExprChains'. -/
def exprChainsCard : Claim7 := { stood := { row := exprChainsRow, standIns := [], harness := (true, "d628e6c102e9eecd03a213313fdcd05c9e94f3aeb5710246353a0bbc62f1f554"), looks := true }, kinds := [], alts := [], laidByText := true, laidKinds := [.listed, .data], laidTests := true, laidLooks := .later }
def ExprChainsCardSaid : Prop := Claim7.holds Tryz.pinned (.plain (OpenSpec.ofChange exprChainsSpec)) exprChainsCard

/-- THE TIED CARD OF 'ceilinglaw03.ExprDeep'. -/
def exprDeepCard : Claim7 := { stood := { row := exprDeepRow, standIns := [], harness := (true, "d628e6c102e9eecd03a213313fdcd05c9e94f3aeb5710246353a0bbc62f1f554"), looks := true }, kinds := [], alts := [], laidByText := true, laidKinds := [.listed, .data], laidTests := true, laidLooks := .later }
def ExprDeepCardSaid : Prop := Claim7.holds Tryz.pinned (.plain (OpenSpec.ofChange exprDeepSpec)) exprDeepCard

/-- THE TIED CARD OF 'ceilinglaw03.ExprFronts'. -/
def exprFrontsCard : Claim7 := { stood := { row := exprFrontsRow, standIns := [], harness := (true, "d628e6c102e9eecd03a213313fdcd05c9e94f3aeb5710246353a0bbc62f1f554"), looks := true }, kinds := [], alts := [], laidByText := true, laidKinds := [.listed, .data], laidTests := true, laidLooks := .later }
def ExprFrontsCardSaid : Prop := Claim7.holds Tryz.pinned (.plain (OpenSpec.ofChange exprFrontsSpec)) exprFrontsCard

/-- THE TIED CARD OF 'ceilinglaw04.FormModes'. -/
def formModesCard : Claim7 := { stood := { row := formModesRow, standIns := [], harness := (true, "d628e6c102e9eecd03a213313fdcd05c9e94f3aeb5710246353a0bbc62f1f554"), looks := true }, kinds := [], alts := [], laidByText := true, laidKinds := [.listed, .data], laidTests := true, laidLooks := .later }
def FormModesCardSaid : Prop := Claim7.holds Tryz.pinned (.plain (OpenSpec.ofChange formModesSpec)) formModesCard

/-- THE TIED CARD OF 'ceilinglaw04.FormMays'. -/
def formMaysCard : Claim7 := { stood := { row := formMaysRow, standIns := [], harness := (true, "d628e6c102e9eecd03a213313fdcd05c9e94f3aeb5710246353a0bbc62f1f554"), looks := true }, kinds := [], alts := [], laidByText := true, laidKinds := [.listed, .data], laidTests := true, laidLooks := .later }
def FormMaysCardSaid : Prop := Claim7.holds Tryz.pinned (.plain (OpenSpec.ofChange formMaysSpec)) formMaysCard

/-- THE TIED CARD OF 'ceilinglaw04.FormSames'. -/
def formSamesCard : Claim7 := { stood := { row := formSamesRow, standIns := [], harness := (true, "d628e6c102e9eecd03a213313fdcd05c9e94f3aeb5710246353a0bbc62f1f554"), looks := true }, kinds := [], alts := [], laidByText := true, laidKinds := [.listed, .data], laidTests := true, laidLooks := .later }
def FormSamesCardSaid : Prop := Claim7.holds Tryz.pinned (.plain (OpenSpec.ofChange formSamesSpec)) formSamesCard

/-- THE TIED CARD OF 'ceilinglaw04.FormAgain'. -/
def formAgainCard : Claim7 := { stood := { row := formAgainRow, standIns := [], harness := (true, "d628e6c102e9eecd03a213313fdcd05c9e94f3aeb5710246353a0bbc62f1f554"), looks := true }, kinds := [], alts := [], laidByText := true, laidKinds := [.listed, .data], laidTests := true, laidLooks := .later }
def FormAgainCardSaid : Prop := Claim7.holds Tryz.pinned (.plain (OpenSpec.ofChange formAgainSpec)) formAgainCard

/-- THE TIED CARD OF 'ceilinglaw04.FormFronts'. -/
def formFrontsCard : Claim7 := { stood := { row := formFrontsRow, standIns := [], harness := (true, "d628e6c102e9eecd03a213313fdcd05c9e94f3aeb5710246353a0bbc62f1f554"), looks := true }, kinds := [], alts := [], laidByText := true, laidKinds := [.listed, .data], laidTests := true, laidLooks := .later }
def FormFrontsCardSaid : Prop := Claim7.holds Tryz.pinned (.plain (OpenSpec.ofChange formFrontsSpec)) formFrontsCard

/-- THE TIED CARD OF 'ceilinglaw04.FormTexts'. -/
def formTextsCard : Claim7 := { stood := { row := formTextsRow, standIns := [], harness := (true, "d628e6c102e9eecd03a213313fdcd05c9e94f3aeb5710246353a0bbc62f1f554"), looks := true }, kinds := [], alts := [], laidByText := true, laidKinds := [.listed, .data], laidTests := true, laidLooks := .later }
def FormTextsCardSaid : Prop := Claim7.holds Tryz.pinned (.plain (OpenSpec.ofChange formTextsSpec)) formTextsCard

/-- THE TIED CARD OF 'ceilinglaw04.FormBack'. -/
def formBackCard : Claim7 := { stood := { row := formBackRow, standIns := [], harness := (true, "d628e6c102e9eecd03a213313fdcd05c9e94f3aeb5710246353a0bbc62f1f554"), looks := true }, kinds := [], alts := [], laidByText := true, laidKinds := [.listed, .data], laidTests := true, laidLooks := .later }
def FormBackCardSaid : Prop := Claim7.holds Tryz.pinned (.plain (OpenSpec.ofChange formBackSpec)) formBackCard

/-- THE TIED CARD OF 'ceilinglaw04.FormLimits'. -/
def formLimitsCard : Claim7 := { stood := { row := formLimitsRow, standIns := [], harness := (true, "d628e6c102e9eecd03a213313fdcd05c9e94f3aeb5710246353a0bbc62f1f554"), looks := true }, kinds := [], alts := [], laidByText := true, laidKinds := [.listed, .data], laidTests := true, laidLooks := .later }
def FormLimitsCardSaid : Prop := Claim7.holds Tryz.pinned (.plain (OpenSpec.ofChange formLimitsSpec)) formLimitsCard

/-- THE SECOND FORM's CARD OF 'ceilinglaw03.ExprChains'. -/
def exprChainsUptoCard : Claim7 := { stood := { row := exprChainsUptoRow, standIns := [], harness := (true, "d628e6c102e9eecd03a213313fdcd05c9e94f3aeb5710246353a0bbc62f1f554"), looks := true }, kinds := [], alts := [], laidByText := true, laidKinds := [.listed, .data], laidTests := true, laidLooks := .later }
def ExprChainsUptoCardSaid : Prop := Claim7.holds Tryz.pinned (.plain (OpenSpec.upto exprChainsSpec)) exprChainsUptoCard

/-- THE SECOND FORM's CARD OF 'ceilinglaw03.ExprDeep'. -/
def exprDeepUptoCard : Claim7 := { stood := { row := exprDeepUptoRow, standIns := [], harness := (true, "d628e6c102e9eecd03a213313fdcd05c9e94f3aeb5710246353a0bbc62f1f554"), looks := true }, kinds := [], alts := [], laidByText := true, laidKinds := [.listed, .data], laidTests := true, laidLooks := .later }
def ExprDeepUptoCardSaid : Prop := Claim7.holds Tryz.pinned (.plain (OpenSpec.upto exprDeepSpec)) exprDeepUptoCard

/-- THE SECOND FORM's CARD OF 'ceilinglaw03.ExprFronts'. -/
def exprFrontsUptoCard : Claim7 := { stood := { row := exprFrontsUptoRow, standIns := [], harness := (true, "d628e6c102e9eecd03a213313fdcd05c9e94f3aeb5710246353a0bbc62f1f554"), looks := true }, kinds := [], alts := [], laidByText := true, laidKinds := [.listed, .data], laidTests := true, laidLooks := .later }
def ExprFrontsUptoCardSaid : Prop := Claim7.holds Tryz.pinned (.plain (OpenSpec.upto exprFrontsSpec)) exprFrontsUptoCard

/-- THE SECOND FORM's CARD OF 'ceilinglaw04.FormModes'. -/
def formModesUptoCard : Claim7 := { stood := { row := formModesUptoRow, standIns := [], harness := (true, "d628e6c102e9eecd03a213313fdcd05c9e94f3aeb5710246353a0bbc62f1f554"), looks := true }, kinds := [], alts := [], laidByText := true, laidKinds := [.listed, .data], laidTests := true, laidLooks := .later }
def FormModesUptoCardSaid : Prop := Claim7.holds Tryz.pinned (.plain (OpenSpec.upto formModesSpec)) formModesUptoCard

/-- THE SECOND FORM's CARD OF 'ceilinglaw04.FormMays'. -/
def formMaysUptoCard : Claim7 := { stood := { row := formMaysUptoRow, standIns := [], harness := (true, "d628e6c102e9eecd03a213313fdcd05c9e94f3aeb5710246353a0bbc62f1f554"), looks := true }, kinds := [], alts := [], laidByText := true, laidKinds := [.listed, .data], laidTests := true, laidLooks := .later }
def FormMaysUptoCardSaid : Prop := Claim7.holds Tryz.pinned (.plain (OpenSpec.upto formMaysSpec)) formMaysUptoCard

/-- THE SECOND FORM's CARD OF 'ceilinglaw04.FormSames'. -/
def formSamesUptoCard : Claim7 := { stood := { row := formSamesUptoRow, standIns := [], harness := (true, "d628e6c102e9eecd03a213313fdcd05c9e94f3aeb5710246353a0bbc62f1f554"), looks := true }, kinds := [], alts := [], laidByText := true, laidKinds := [.listed, .data], laidTests := true, laidLooks := .later }
def FormSamesUptoCardSaid : Prop := Claim7.holds Tryz.pinned (.plain (OpenSpec.upto formSamesSpec)) formSamesUptoCard

/-- THE SECOND FORM's CARD OF 'ceilinglaw04.FormAgain'. -/
def formAgainUptoCard : Claim7 := { stood := { row := formAgainUptoRow, standIns := [], harness := (true, "d628e6c102e9eecd03a213313fdcd05c9e94f3aeb5710246353a0bbc62f1f554"), looks := true }, kinds := [], alts := [], laidByText := true, laidKinds := [.listed, .data], laidTests := true, laidLooks := .later }
def FormAgainUptoCardSaid : Prop := Claim7.holds Tryz.pinned (.plain (OpenSpec.upto formAgainSpec)) formAgainUptoCard

/-- THE SECOND FORM's CARD OF 'ceilinglaw04.FormFronts'. -/
def formFrontsUptoCard : Claim7 := { stood := { row := formFrontsUptoRow, standIns := [], harness := (true, "d628e6c102e9eecd03a213313fdcd05c9e94f3aeb5710246353a0bbc62f1f554"), looks := true }, kinds := [], alts := [], laidByText := true, laidKinds := [.listed, .data], laidTests := true, laidLooks := .later }
def FormFrontsUptoCardSaid : Prop := Claim7.holds Tryz.pinned (.plain (OpenSpec.upto formFrontsSpec)) formFrontsUptoCard

/-- THE SECOND FORM's CARD OF 'ceilinglaw04.FormTexts'. -/
def formTextsUptoCard : Claim7 := { stood := { row := formTextsUptoRow, standIns := [], harness := (true, "d628e6c102e9eecd03a213313fdcd05c9e94f3aeb5710246353a0bbc62f1f554"), looks := true }, kinds := [], alts := [], laidByText := true, laidKinds := [.listed, .data], laidTests := true, laidLooks := .later }
def FormTextsUptoCardSaid : Prop := Claim7.holds Tryz.pinned (.plain (OpenSpec.upto formTextsSpec)) formTextsUptoCard

/-- THE SECOND FORM's CARD OF 'ceilinglaw04.FormBack'. -/
def formBackUptoCard : Claim7 := { stood := { row := formBackUptoRow, standIns := [], harness := (true, "d628e6c102e9eecd03a213313fdcd05c9e94f3aeb5710246353a0bbc62f1f554"), looks := true }, kinds := [], alts := [], laidByText := true, laidKinds := [.listed, .data], laidTests := true, laidLooks := .later }
def FormBackUptoCardSaid : Prop := Claim7.holds Tryz.pinned (.plain (OpenSpec.upto formBackSpec)) formBackUptoCard

/-- THE SECOND FORM's CARD OF 'ceilinglaw04.FormLimits'. -/
def formLimitsUptoCard : Claim7 := { stood := { row := formLimitsUptoRow, standIns := [], harness := (true, "d628e6c102e9eecd03a213313fdcd05c9e94f3aeb5710246353a0bbc62f1f554"), looks := true }, kinds := [], alts := [], laidByText := true, laidKinds := [.listed, .data], laidTests := true, laidLooks := .later }
def FormLimitsUptoCardSaid : Prop := Claim7.holds Tryz.pinned (.plain (OpenSpec.upto formLimitsSpec)) formLimitsUptoCard
end Rows
end Go.Proofs.YtkieniphnglaaaaGreatDoor
