/-
  DERIVED. GIVEN WITH THE SEED: THE CARDS: each row of YtpcbhialfjiaaaaGreatDoorRows.lean that lists a variable, with what it lists TIED to the program's text (the seventh form; the later family's looks); each row that meets fmt, with fmt's text TOLD by the authors' own Lean function (tested against real Go, not proved from fmt's source: count such statements apart). THE CARD IS WHAT COUNTS. Prove the row's statement (the work); the ties are given (YtpcbhialfjiaaaaGreatDoorTie.lean); close each card by the builder's one call (the guide's Derived/Test/ToyasCard.lean, 'card_holds'). Laid BY PROGRAM, IN A SANDBOX (cutbox-door.mjs). By AI agents, Wed Nov 11 2026. No macro, syntax, notation, axiom, sorry.
-/
import Derived.Test.YtpcbhialfjiaaaaGreatDoorRows
import GoSem.ClaimSeven
namespace Go.Proofs.YtpcbhialfjiaaaaGreatDoor
namespace Rows

/-- THE TIED CARD OF 'ceilinglaw03.ExprDeep'. -/
def exprDeepCard : Claim7 := { stood := { row := exprDeepRow, standIns := [], harness := (true, "8fedce03a058e1f3571cb01b5805ee4d6bfdb99d03c50ad96a6d9a7caca1d17b"), looks := true }, kinds := [], alts := [], laidByText := true, laidKinds := [.listed, .data], laidTests := true, laidLooks := .later }
def ExprDeepCardSaid : Prop := Claim7.holds Tryz.pinned (.plain (OpenSpec.ofChange exprDeepSpec)) exprDeepCard

/-- THE TIED CARD OF 'ceilinglaw03.ExprFronts'. -/
def exprFrontsCard : Claim7 := { stood := { row := exprFrontsRow, standIns := [], harness := (true, "8fedce03a058e1f3571cb01b5805ee4d6bfdb99d03c50ad96a6d9a7caca1d17b"), looks := true }, kinds := [], alts := [], laidByText := true, laidKinds := [.listed, .data], laidTests := true, laidLooks := .later }
def ExprFrontsCardSaid : Prop := Claim7.holds Tryz.pinned (.plain (OpenSpec.ofChange exprFrontsSpec)) exprFrontsCard

/-- THE SECOND FORM's CARD OF 'ceilinglaw03.ExprDeep'. -/
def exprDeepUptoCard : Claim7 := { stood := { row := exprDeepUptoRow, standIns := [], harness := (true, "8fedce03a058e1f3571cb01b5805ee4d6bfdb99d03c50ad96a6d9a7caca1d17b"), looks := true }, kinds := [], alts := [], laidByText := true, laidKinds := [.listed, .data], laidTests := true, laidLooks := .later }
def ExprDeepUptoCardSaid : Prop := Claim7.holds Tryz.pinned (.plain (OpenSpec.upto exprDeepSpec)) exprDeepUptoCard

/-- THE SECOND FORM's CARD OF 'ceilinglaw03.ExprFronts'. -/
def exprFrontsUptoCard : Claim7 := { stood := { row := exprFrontsUptoRow, standIns := [], harness := (true, "8fedce03a058e1f3571cb01b5805ee4d6bfdb99d03c50ad96a6d9a7caca1d17b"), looks := true }, kinds := [], alts := [], laidByText := true, laidKinds := [.listed, .data], laidTests := true, laidLooks := .later }
def ExprFrontsUptoCardSaid : Prop := Claim7.holds Tryz.pinned (.plain (OpenSpec.upto exprFrontsSpec)) exprFrontsUptoCard
end Rows
end Go.Proofs.YtpcbhialfjiaaaaGreatDoor
