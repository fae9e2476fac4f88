/-
  DERIVED. GIVEN WITH THE SEED: THE CARDS: each row of YtddbdpcgikmiaaaGreatDoorRows.lean that lists a variable, with what it lists TIED to the program's text (the seventh form; the later family's looks); each row that meets fmt, with fmt's text TOLD by the authors' own Lean function (tested against real Go, not proved from fmt's source: count such statements apart). THE CARD IS WHAT COUNTS. Prove the row's statement (the work); the ties are given (YtddbdpcgikmiaaaGreatDoorTie.lean); close each card by the builder's one call (the guide's Derived/Test/ToyasCard.lean, 'card_holds'). Laid BY PROGRAM, IN A SANDBOX (cutbox-door.mjs). By AI agents, Wed Nov 11 2026. No macro, syntax, notation, axiom, sorry.
-/
import Derived.Test.YtddbdpcgikmiaaaGreatDoorRows
import GoSem.ClaimSeven
namespace Go.Proofs.YtddbdpcgikmiaaaGreatDoor
namespace Rows

/-- THE TIED CARD OF 'ceilinglaw03.ExprDeep'. -/
def exprDeepCard : Claim7 := { stood := { row := exprDeepRow, standIns := [], harness := (true, "b6df0fbbe3059076bccb901c15e39c148876bbae87e3743943a8fa41b098ed1d"), looks := true }, kinds := [], alts := [], laidByText := true, laidKinds := [.listed, .data], laidTests := true, laidLooks := .later }
def ExprDeepCardSaid : Prop := Claim7.holds Tryz.pinned (.plain (OpenSpec.ofChange exprDeepSpec)) exprDeepCard

/-- THE TIED CARD OF 'ceilinglaw04.FormAgain'. -/
def formAgainCard : Claim7 := { stood := { row := formAgainRow, standIns := [], harness := (true, "b6df0fbbe3059076bccb901c15e39c148876bbae87e3743943a8fa41b098ed1d"), looks := true }, kinds := [], alts := [], laidByText := true, laidKinds := [.listed, .data], laidTests := true, laidLooks := .later }
def FormAgainCardSaid : Prop := Claim7.holds Tryz.pinned (.plain (OpenSpec.ofChange formAgainSpec)) formAgainCard

/-- THE TIED CARD OF 'ceilinglaw04.FormBack'. -/
def formBackCard : Claim7 := { stood := { row := formBackRow, standIns := [], harness := (true, "b6df0fbbe3059076bccb901c15e39c148876bbae87e3743943a8fa41b098ed1d"), looks := true }, kinds := [], alts := [], laidByText := true, laidKinds := [.listed, .data], laidTests := true, laidLooks := .later }
def FormBackCardSaid : Prop := Claim7.holds Tryz.pinned (.plain (OpenSpec.ofChange formBackSpec)) formBackCard

/-- THE TIED CARD OF 'ceilinglaw04.FormLimits'. -/
def formLimitsCard : Claim7 := { stood := { row := formLimitsRow, standIns := [], harness := (true, "b6df0fbbe3059076bccb901c15e39c148876bbae87e3743943a8fa41b098ed1d"), looks := true }, kinds := [], alts := [], laidByText := true, laidKinds := [.listed, .data], laidTests := true, laidLooks := .later }
def FormLimitsCardSaid : Prop := Claim7.holds Tryz.pinned (.plain (OpenSpec.ofChange formLimitsSpec)) formLimitsCard

/-- THE SECOND FORM's CARD OF 'ceilinglaw03.ExprDeep'. -/
def exprDeepUptoCard : Claim7 := { stood := { row := exprDeepUptoRow, standIns := [], harness := (true, "b6df0fbbe3059076bccb901c15e39c148876bbae87e3743943a8fa41b098ed1d"), looks := true }, kinds := [], alts := [], laidByText := true, laidKinds := [.listed, .data], laidTests := true, laidLooks := .later }
def ExprDeepUptoCardSaid : Prop := Claim7.holds Tryz.pinned (.plain (OpenSpec.upto exprDeepSpec)) exprDeepUptoCard

/-- THE SECOND FORM's CARD OF 'ceilinglaw04.FormAgain'. -/
def formAgainUptoCard : Claim7 := { stood := { row := formAgainUptoRow, standIns := [], harness := (true, "b6df0fbbe3059076bccb901c15e39c148876bbae87e3743943a8fa41b098ed1d"), looks := true }, kinds := [], alts := [], laidByText := true, laidKinds := [.listed, .data], laidTests := true, laidLooks := .later }
def FormAgainUptoCardSaid : Prop := Claim7.holds Tryz.pinned (.plain (OpenSpec.upto formAgainSpec)) formAgainUptoCard

/-- THE SECOND FORM's CARD OF 'ceilinglaw04.FormBack'. -/
def formBackUptoCard : Claim7 := { stood := { row := formBackUptoRow, standIns := [], harness := (true, "b6df0fbbe3059076bccb901c15e39c148876bbae87e3743943a8fa41b098ed1d"), looks := true }, kinds := [], alts := [], laidByText := true, laidKinds := [.listed, .data], laidTests := true, laidLooks := .later }
def FormBackUptoCardSaid : Prop := Claim7.holds Tryz.pinned (.plain (OpenSpec.upto formBackSpec)) formBackUptoCard

/-- THE SECOND FORM's CARD OF 'ceilinglaw04.FormLimits'. -/
def formLimitsUptoCard : Claim7 := { stood := { row := formLimitsUptoRow, standIns := [], harness := (true, "b6df0fbbe3059076bccb901c15e39c148876bbae87e3743943a8fa41b098ed1d"), looks := true }, kinds := [], alts := [], laidByText := true, laidKinds := [.listed, .data], laidTests := true, laidLooks := .later }
def FormLimitsUptoCardSaid : Prop := Claim7.holds Tryz.pinned (.plain (OpenSpec.upto formLimitsSpec)) formLimitsUptoCard
end Rows
end Go.Proofs.YtddbdpcgikmiaaaGreatDoor
