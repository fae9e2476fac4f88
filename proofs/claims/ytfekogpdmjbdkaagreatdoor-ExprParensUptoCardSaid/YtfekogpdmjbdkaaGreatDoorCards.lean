/-
  DERIVED. GIVEN WITH THE SEED: THE CARDS: each row of YtfekogpdmjbdkaaGreatDoorRows.lean that lists a variable, with what it lists TIED to the program's text (the seventh form; the later family's looks); each row that meets fmt, with fmt's text TOLD by the authors' own Lean function (tested against real Go, not proved from fmt's source: count such statements apart). THE CARD IS WHAT COUNTS. Prove the row's statement (the work); the ties are given (YtfekogpdmjbdkaaGreatDoorTie.lean); close each card by the builder's one call (the guide's Derived/Test/ToyasCard.lean, 'card_holds'). Laid BY PROGRAM, IN A SANDBOX (cutbox-door.mjs). By AI agents, Wed Nov 11 2026. No macro, syntax, notation, axiom, sorry.
-/
import Derived.Test.YtfekogpdmjbdkaaGreatDoorRows
import GoSem.ClaimSeven
namespace Go.Proofs.YtfekogpdmjbdkaaGreatDoor
namespace Rows

/-- THE TIED CARD OF 'ceilinglaw03.ExprBack'. -/
def exprBackCard : Claim7 := { stood := { row := exprBackRow, standIns := [], harness := (true, "8360adf3379aa0fe73063e4d7a055c1c5fe4165942fd073dc81452ce11053d79"), looks := true }, kinds := [], alts := [], laidByText := true, laidKinds := [.listed, .data], laidTests := true, laidLooks := .later }
def ExprBackCardSaid : Prop := Claim7.holds Tryz.pinned (.plain (OpenSpec.ofChange exprBackSpec)) exprBackCard

/-- THE TIED CARD OF 'ceilinglaw03.ExprAgain'. -/
def exprAgainCard : Claim7 := { stood := { row := exprAgainRow, standIns := [], harness := (true, "8360adf3379aa0fe73063e4d7a055c1c5fe4165942fd073dc81452ce11053d79"), looks := true }, kinds := [], alts := [], laidByText := true, laidKinds := [.listed, .data], laidTests := true, laidLooks := .later }
def ExprAgainCardSaid : Prop := Claim7.holds Tryz.pinned (.plain (OpenSpec.ofChange exprAgainSpec)) exprAgainCard

/-- THE TIED CARD OF 'ceilinglaw03.ExprMays'. -/
def exprMaysCard : Claim7 := { stood := { row := exprMaysRow, standIns := [], harness := (true, "8360adf3379aa0fe73063e4d7a055c1c5fe4165942fd073dc81452ce11053d79"), looks := true }, kinds := [], alts := [], laidByText := true, laidKinds := [.listed, .data], laidTests := true, laidLooks := .later }
def ExprMaysCardSaid : Prop := Claim7.holds Tryz.pinned (.plain (OpenSpec.ofChange exprMaysSpec)) exprMaysCard

/-- THE TIED CARD OF 'ceilinglaw03.ExprParens'. -/
def exprParensCard : Claim7 := { stood := { row := exprParensRow, standIns := [], harness := (true, "8360adf3379aa0fe73063e4d7a055c1c5fe4165942fd073dc81452ce11053d79"), looks := true }, kinds := [], alts := [], laidByText := true, laidKinds := [.listed, .data], laidTests := true, laidLooks := .later }
def ExprParensCardSaid : Prop := Claim7.holds Tryz.pinned (.plain (OpenSpec.ofChange exprParensSpec)) exprParensCard

/-- THE TIED CARD OF 'ceilinglaw03.ExprChains'. -/
def exprChainsCard : Claim7 := { stood := { row := exprChainsRow, standIns := [], harness := (true, "8360adf3379aa0fe73063e4d7a055c1c5fe4165942fd073dc81452ce11053d79"), looks := true }, kinds := [], alts := [], laidByText := true, laidKinds := [.listed, .data], laidTests := true, laidLooks := .later }
def ExprChainsCardSaid : Prop := Claim7.holds Tryz.pinned (.plain (OpenSpec.ofChange exprChainsSpec)) exprChainsCard

/-- THE TIED CARD OF 'ceilinglaw03.ExprTexts'. -/
def exprTextsCard : Claim7 := { stood := { row := exprTextsRow, standIns := [], harness := (true, "8360adf3379aa0fe73063e4d7a055c1c5fe4165942fd073dc81452ce11053d79"), looks := true }, kinds := [], alts := [], laidByText := true, laidKinds := [.listed, .data], laidTests := true, laidLooks := .later }
def ExprTextsCardSaid : Prop := Claim7.holds Tryz.pinned (.plain (OpenSpec.ofChange exprTextsSpec)) exprTextsCard

/-- THE TIED CARD OF 'ceilinglaw03.ExprDeep'. -/
def exprDeepCard : Claim7 := { stood := { row := exprDeepRow, standIns := [], harness := (true, "8360adf3379aa0fe73063e4d7a055c1c5fe4165942fd073dc81452ce11053d79"), looks := true }, kinds := [], alts := [], laidByText := true, laidKinds := [.listed, .data], laidTests := true, laidLooks := .later }
def ExprDeepCardSaid : Prop := Claim7.holds Tryz.pinned (.plain (OpenSpec.ofChange exprDeepSpec)) exprDeepCard

/-- THE TIED CARD OF 'ceilinglaw03.ExprFronts'. -/
def exprFrontsCard : Claim7 := { stood := { row := exprFrontsRow, standIns := [], harness := (true, "8360adf3379aa0fe73063e4d7a055c1c5fe4165942fd073dc81452ce11053d79"), looks := true }, kinds := [], alts := [], laidByText := true, laidKinds := [.listed, .data], laidTests := true, laidLooks := .later }
def ExprFrontsCardSaid : Prop := Claim7.holds Tryz.pinned (.plain (OpenSpec.ofChange exprFrontsSpec)) exprFrontsCard

/-- THE SECOND FORM's CARD OF 'ceilinglaw03.ExprBack'. -/
def exprBackUptoCard : Claim7 := { stood := { row := exprBackUptoRow, standIns := [], harness := (true, "8360adf3379aa0fe73063e4d7a055c1c5fe4165942fd073dc81452ce11053d79"), looks := true }, kinds := [], alts := [], laidByText := true, laidKinds := [.listed, .data], laidTests := true, laidLooks := .later }
def ExprBackUptoCardSaid : Prop := Claim7.holds Tryz.pinned (.plain (OpenSpec.upto exprBackSpec)) exprBackUptoCard

/-- THE SECOND FORM's CARD OF 'ceilinglaw03.ExprAgain'. -/
def exprAgainUptoCard : Claim7 := { stood := { row := exprAgainUptoRow, standIns := [], harness := (true, "8360adf3379aa0fe73063e4d7a055c1c5fe4165942fd073dc81452ce11053d79"), looks := true }, kinds := [], alts := [], laidByText := true, laidKinds := [.listed, .data], laidTests := true, laidLooks := .later }
def ExprAgainUptoCardSaid : Prop := Claim7.holds Tryz.pinned (.plain (OpenSpec.upto exprAgainSpec)) exprAgainUptoCard

/-- THE SECOND FORM's CARD OF 'ceilinglaw03.ExprMays'. -/
def exprMaysUptoCard : Claim7 := { stood := { row := exprMaysUptoRow, standIns := [], harness := (true, "8360adf3379aa0fe73063e4d7a055c1c5fe4165942fd073dc81452ce11053d79"), looks := true }, kinds := [], alts := [], laidByText := true, laidKinds := [.listed, .data], laidTests := true, laidLooks := .later }
def ExprMaysUptoCardSaid : Prop := Claim7.holds Tryz.pinned (.plain (OpenSpec.upto exprMaysSpec)) exprMaysUptoCard

/-- THE SECOND FORM's CARD OF 'ceilinglaw03.ExprParens'. -/
def exprParensUptoCard : Claim7 := { stood := { row := exprParensUptoRow, standIns := [], harness := (true, "8360adf3379aa0fe73063e4d7a055c1c5fe4165942fd073dc81452ce11053d79"), looks := true }, kinds := [], alts := [], laidByText := true, laidKinds := [.listed, .data], laidTests := true, laidLooks := .later }
def ExprParensUptoCardSaid : Prop := Claim7.holds Tryz.pinned (.plain (OpenSpec.upto exprParensSpec)) exprParensUptoCard

/-- THE SECOND FORM's CARD OF 'ceilinglaw03.ExprChains'. -/
def exprChainsUptoCard : Claim7 := { stood := { row := exprChainsUptoRow, standIns := [], harness := (true, "8360adf3379aa0fe73063e4d7a055c1c5fe4165942fd073dc81452ce11053d79"), looks := true }, kinds := [], alts := [], laidByText := true, laidKinds := [.listed, .data], laidTests := true, laidLooks := .later }
def ExprChainsUptoCardSaid : Prop := Claim7.holds Tryz.pinned (.plain (OpenSpec.upto exprChainsSpec)) exprChainsUptoCard

/-- THE SECOND FORM's CARD OF 'ceilinglaw03.ExprTexts'. -/
def exprTextsUptoCard : Claim7 := { stood := { row := exprTextsUptoRow, standIns := [], harness := (true, "8360adf3379aa0fe73063e4d7a055c1c5fe4165942fd073dc81452ce11053d79"), looks := true }, kinds := [], alts := [], laidByText := true, laidKinds := [.listed, .data], laidTests := true, laidLooks := .later }
def ExprTextsUptoCardSaid : Prop := Claim7.holds Tryz.pinned (.plain (OpenSpec.upto exprTextsSpec)) exprTextsUptoCard

/-- THE SECOND FORM's CARD OF 'ceilinglaw03.ExprDeep'. -/
def exprDeepUptoCard : Claim7 := { stood := { row := exprDeepUptoRow, standIns := [], harness := (true, "8360adf3379aa0fe73063e4d7a055c1c5fe4165942fd073dc81452ce11053d79"), looks := true }, kinds := [], alts := [], laidByText := true, laidKinds := [.listed, .data], laidTests := true, laidLooks := .later }
def ExprDeepUptoCardSaid : Prop := Claim7.holds Tryz.pinned (.plain (OpenSpec.upto exprDeepSpec)) exprDeepUptoCard

/-- THE SECOND FORM's CARD OF 'ceilinglaw03.ExprFronts'. -/
def exprFrontsUptoCard : Claim7 := { stood := { row := exprFrontsUptoRow, standIns := [], harness := (true, "8360adf3379aa0fe73063e4d7a055c1c5fe4165942fd073dc81452ce11053d79"), looks := true }, kinds := [], alts := [], laidByText := true, laidKinds := [.listed, .data], laidTests := true, laidLooks := .later }
def ExprFrontsUptoCardSaid : Prop := Claim7.holds Tryz.pinned (.plain (OpenSpec.upto exprFrontsSpec)) exprFrontsUptoCard
end Rows
end Go.Proofs.YtfekogpdmjbdkaaGreatDoor
