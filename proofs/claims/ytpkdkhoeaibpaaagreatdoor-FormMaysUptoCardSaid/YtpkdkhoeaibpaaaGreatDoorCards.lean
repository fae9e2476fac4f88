/-
  DERIVED. GIVEN WITH THE SEED: THE CARDS: each row of YtpkdkhoeaibpaaaGreatDoorRows.lean that lists a variable, with what it lists TIED to the program's text (the seventh form; the later family's looks); each row that meets fmt, with fmt's text TOLD by the authors' own Lean function (tested against real Go, not proved from fmt's source: count such statements apart). THE CARD IS WHAT COUNTS. Prove the row's statement (the work); the ties are given (YtpkdkhoeaibpaaaGreatDoorTie.lean); close each card by the builder's one call (the guide's Derived/Test/ToyasCard.lean, 'card_holds'). Laid BY PROGRAM, IN A SANDBOX (cutbox-door.mjs). By AI agents, Wed Nov 11 2026. No macro, syntax, notation, axiom, sorry.
-/
import Derived.Test.YtpkdkhoeaibpaaaGreatDoorRows
import GoSem.ClaimSeven
namespace Go.Proofs.YtpkdkhoeaibpaaaGreatDoor
namespace Rows

/-- THE TIED CARD OF 'ceilinglaw04.FormModes'. -/
def formModesCard : Claim7 := { stood := { row := formModesRow, standIns := [], harness := (true, "b79c55a38bd0f9ea4c47e45d021ef735efb6432ca5ca6518dacee7f0ecb5b9ef"), looks := true }, kinds := [], alts := [], laidByText := true, laidKinds := [.listed, .data], laidTests := true, laidLooks := .later }
def FormModesCardSaid : Prop := Claim7.holds Tryz.pinned (.plain (OpenSpec.ofChange formModesSpec)) formModesCard

/-- THE TIED CARD OF 'ceilinglaw04.FormMays'. -/
def formMaysCard : Claim7 := { stood := { row := formMaysRow, standIns := [], harness := (true, "b79c55a38bd0f9ea4c47e45d021ef735efb6432ca5ca6518dacee7f0ecb5b9ef"), looks := true }, kinds := [], alts := [], laidByText := true, laidKinds := [.listed, .data], laidTests := true, laidLooks := .later }
def FormMaysCardSaid : Prop := Claim7.holds Tryz.pinned (.plain (OpenSpec.ofChange formMaysSpec)) formMaysCard

/-- THE TIED CARD OF 'ceilinglaw04.FormSames'. -/
def formSamesCard : Claim7 := { stood := { row := formSamesRow, standIns := [], harness := (true, "b79c55a38bd0f9ea4c47e45d021ef735efb6432ca5ca6518dacee7f0ecb5b9ef"), looks := true }, kinds := [], alts := [], laidByText := true, laidKinds := [.listed, .data], laidTests := true, laidLooks := .later }
def FormSamesCardSaid : Prop := Claim7.holds Tryz.pinned (.plain (OpenSpec.ofChange formSamesSpec)) formSamesCard

/-- THE TIED CARD OF 'ceilinglaw04.FormTexts'. -/
def formTextsCard : Claim7 := { stood := { row := formTextsRow, standIns := [], harness := (true, "b79c55a38bd0f9ea4c47e45d021ef735efb6432ca5ca6518dacee7f0ecb5b9ef"), looks := true }, kinds := [], alts := [], laidByText := true, laidKinds := [.listed, .data], laidTests := true, laidLooks := .later }
def FormTextsCardSaid : Prop := Claim7.holds Tryz.pinned (.plain (OpenSpec.ofChange formTextsSpec)) formTextsCard

/-- THE SECOND FORM's CARD OF 'ceilinglaw04.FormModes'. -/
def formModesUptoCard : Claim7 := { stood := { row := formModesUptoRow, standIns := [], harness := (true, "b79c55a38bd0f9ea4c47e45d021ef735efb6432ca5ca6518dacee7f0ecb5b9ef"), looks := true }, kinds := [], alts := [], laidByText := true, laidKinds := [.listed, .data], laidTests := true, laidLooks := .later }
def FormModesUptoCardSaid : Prop := Claim7.holds Tryz.pinned (.plain (OpenSpec.upto formModesSpec)) formModesUptoCard

/-- THE SECOND FORM's CARD OF 'ceilinglaw04.FormMays'. -/
def formMaysUptoCard : Claim7 := { stood := { row := formMaysUptoRow, standIns := [], harness := (true, "b79c55a38bd0f9ea4c47e45d021ef735efb6432ca5ca6518dacee7f0ecb5b9ef"), looks := true }, kinds := [], alts := [], laidByText := true, laidKinds := [.listed, .data], laidTests := true, laidLooks := .later }
def FormMaysUptoCardSaid : Prop := Claim7.holds Tryz.pinned (.plain (OpenSpec.upto formMaysSpec)) formMaysUptoCard

/-- THE SECOND FORM's CARD OF 'ceilinglaw04.FormSames'. -/
def formSamesUptoCard : Claim7 := { stood := { row := formSamesUptoRow, standIns := [], harness := (true, "b79c55a38bd0f9ea4c47e45d021ef735efb6432ca5ca6518dacee7f0ecb5b9ef"), looks := true }, kinds := [], alts := [], laidByText := true, laidKinds := [.listed, .data], laidTests := true, laidLooks := .later }
def FormSamesUptoCardSaid : Prop := Claim7.holds Tryz.pinned (.plain (OpenSpec.upto formSamesSpec)) formSamesUptoCard

/-- THE SECOND FORM's CARD OF 'ceilinglaw04.FormTexts'. -/
def formTextsUptoCard : Claim7 := { stood := { row := formTextsUptoRow, standIns := [], harness := (true, "b79c55a38bd0f9ea4c47e45d021ef735efb6432ca5ca6518dacee7f0ecb5b9ef"), looks := true }, kinds := [], alts := [], laidByText := true, laidKinds := [.listed, .data], laidTests := true, laidLooks := .later }
def FormTextsUptoCardSaid : Prop := Claim7.holds Tryz.pinned (.plain (OpenSpec.upto formTextsSpec)) formTextsUptoCard
end Rows
end Go.Proofs.YtpkdkhoeaibpaaaGreatDoor
