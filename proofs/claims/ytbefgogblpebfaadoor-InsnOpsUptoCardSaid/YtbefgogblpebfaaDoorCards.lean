/-
  DERIVED. GIVEN WITH THE SEED: THE CARDS: each row of YtbefgogblpebfaaDoorRows.lean that lists a variable, with what it lists TIED to the program's text (the seventh form; the later family's looks); each row that meets fmt, with fmt's text TOLD by the authors' own Lean function (tested against real Go, not proved from fmt's source: count such statements apart). THE CARD IS WHAT COUNTS. Prove the row's statement (the work); the ties are given (YtbefgogblpebfaaDoorTie.lean); close each card by the builder's one call (the guide's Derived/Test/ToyasCard.lean, 'card_holds'). Laid BY PROGRAM, IN A SANDBOX (cutbox-door.mjs). By AI agents, Wed Nov 11 2026. No macro, syntax, notation, axiom, sorry.
-/
import Derived.Test.YtbefgogblpebfaaDoorRows
import GoSem.ClaimSeven
namespace Go.Proofs.YtbefgogblpebfaaDoor
namespace Rows

/-- THE TIED CARD OF 'ceilinglaw30.ClockCosts'. -/
def clockCostsCard : Claim7 := { stood := { row := clockCostsRow, standIns := [], harness := (true, "5182f2faf982d5762778f784454571d4d0fee920f43480a48a3473b77511f37f"), looks := true }, kinds := [], alts := [], laidByText := true, laidKinds := [.data, .data, .data, .sentinel, .sentinel, .widerDeep, .data], laidTests := true, laidLooks := .later }
def ClockCostsCardSaid : Prop := Claim7.holds Tryd.pinned (.plain (OpenSpec.ofChange clockCostsSpec)) clockCostsCard

/-- THE TIED CARD OF 'ceilinglaw30.ClockTakes'. -/
def clockTakesCard : Claim7 := { stood := { row := clockTakesRow, standIns := [], harness := (true, "5182f2faf982d5762778f784454571d4d0fee920f43480a48a3473b77511f37f"), looks := true }, kinds := [], alts := [], laidByText := true, laidKinds := [.data, .data, .data, .sentinel, .sentinel, .widerDeep, .data], laidTests := true, laidLooks := .later }
def ClockTakesCardSaid : Prop := Claim7.holds Tryd.pinned (.plain (OpenSpec.ofChange clockTakesSpec)) clockTakesCard

/-- THE TIED CARD OF 'ceilinglaw30.ClockBounds'. -/
def clockBoundsCard : Claim7 := { stood := { row := clockBoundsRow, standIns := [], harness := (true, "5182f2faf982d5762778f784454571d4d0fee920f43480a48a3473b77511f37f"), looks := true }, kinds := [], alts := [], laidByText := true, laidKinds := [.data, .data, .data, .sentinel, .sentinel, .widerDeep, .data], laidTests := true, laidLooks := .later }
def ClockBoundsCardSaid : Prop := Claim7.holds Tryd.pinned (.plain (OpenSpec.ofChange clockBoundsSpec)) clockBoundsCard

/-- THE TIED CARD OF 'ceilinglaw30.ClockText'. -/
def clockTextCard : Claim7 := { stood := { row := clockTextRow, standIns := [], harness := (true, "5182f2faf982d5762778f784454571d4d0fee920f43480a48a3473b77511f37f"), looks := true }, kinds := [], alts := [], laidByText := true, laidKinds := [.data, .data, .data, .sentinel, .sentinel, .widerDeep, .data], laidTests := true, laidLooks := .later }
def ClockTextCardSaid : Prop := Claim7.holds Tryd.pinned (.plain (OpenSpec.ofChange clockTextSpec)) clockTextCard

/-- THE TIED CARD OF 'ceilinglaw30.ClockBack'. -/
def clockBackCard : Claim7 := { stood := { row := clockBackRow, standIns := [], harness := (true, "5182f2faf982d5762778f784454571d4d0fee920f43480a48a3473b77511f37f"), looks := true }, kinds := [], alts := [], laidByText := true, laidKinds := [.data, .data, .data, .sentinel, .sentinel, .widerDeep, .data], laidTests := true, laidLooks := .later }
def ClockBackCardSaid : Prop := Claim7.holds Tryd.pinned (.plain (OpenSpec.ofChange clockBackSpec)) clockBackCard

/-- THE TIED CARD OF 'ceilinglaw22.InsnMay'. -/
def insnMayCard : Claim7 := { stood := { row := insnMayRow, standIns := [], harness := (true, "5182f2faf982d5762778f784454571d4d0fee920f43480a48a3473b77511f37f"), looks := true }, kinds := [], alts := [], laidByText := true, laidKinds := [.data, .data, .data, .data, .sentinel, .sentinel, .listed, .data, .widerDeep, .pinned], laidTests := true, laidLooks := .later }
def InsnMayCardSaid : Prop := Claim7.holds Tryd.pinned (.plain (OpenSpec.ofChange insnMaySpec)) insnMayCard

/-- THE TIED CARD OF 'ceilinglaw22.InsnOps'. -/
def insnOpsCard : Claim7 := { stood := { row := insnOpsRow, standIns := [], harness := (true, "5182f2faf982d5762778f784454571d4d0fee920f43480a48a3473b77511f37f"), looks := true }, kinds := [], alts := [], laidByText := true, laidKinds := [.data, .data, .data, .data, .sentinel, .sentinel, .listed, .data, .widerDeep, .pinned], laidTests := true, laidLooks := .later }
def InsnOpsCardSaid : Prop := Claim7.holds Tryd.pinned (.plain (OpenSpec.ofChange insnOpsSpec)) insnOpsCard

/-- THE TIED CARD OF 'ceilinglaw22.InsnReads'. -/
def insnReadsCard : Claim7 := { stood := { row := insnReadsRow, standIns := [], harness := (true, "5182f2faf982d5762778f784454571d4d0fee920f43480a48a3473b77511f37f"), looks := true }, kinds := [], alts := [], laidByText := true, laidKinds := [.data, .data, .data, .data, .sentinel, .sentinel, .listed, .data, .widerDeep, .pinned], laidTests := true, laidLooks := .later }
def InsnReadsCardSaid : Prop := Claim7.holds Tryd.pinned (.plain (OpenSpec.ofChange insnReadsSpec)) insnReadsCard

/-- THE TIED CARD OF 'ceilinglaw22.InsnGets'. -/
def insnGetsCard : Claim7 := { stood := { row := insnGetsRow, standIns := [], harness := (true, "5182f2faf982d5762778f784454571d4d0fee920f43480a48a3473b77511f37f"), looks := true }, kinds := [], alts := [], laidByText := true, laidKinds := [.data, .data, .data, .data, .sentinel, .sentinel, .listed, .data, .widerDeep, .pinned], laidTests := true, laidLooks := .later }
def InsnGetsCardSaid : Prop := Claim7.holds Tryd.pinned (.plain (OpenSpec.ofChange insnGetsSpec)) insnGetsCard

/-- THE TIED CARD OF 'ceilinglaw22.InsnBack'. -/
def insnBackCard : Claim7 := { stood := { row := insnBackRow, standIns := [], harness := (true, "5182f2faf982d5762778f784454571d4d0fee920f43480a48a3473b77511f37f"), looks := true }, kinds := [], alts := [], laidByText := true, laidKinds := [.data, .data, .data, .data, .sentinel, .sentinel, .listed, .data, .widerDeep, .pinned], laidTests := true, laidLooks := .later }
def InsnBackCardSaid : Prop := Claim7.holds Tryd.pinned (.plain (OpenSpec.ofChange insnBackSpec)) insnBackCard

/-- THE TIED CARD OF 'ceilinglaw22.InsnNames'. -/
def insnNamesCard : Claim7 := { stood := { row := insnNamesRow, standIns := [], harness := (true, "5182f2faf982d5762778f784454571d4d0fee920f43480a48a3473b77511f37f"), looks := true }, kinds := [], alts := [], laidByText := true, laidKinds := [.data, .data, .data, .data, .sentinel, .sentinel, .listed, .data, .widerDeep, .pinned], laidTests := true, laidLooks := .later }
def InsnNamesCardSaid : Prop := Claim7.holds Tryd.pinned (.plain (OpenSpec.ofChange insnNamesSpec)) insnNamesCard

/-- THE SECOND FORM's CARD OF 'ceilinglaw30.ClockCosts'. -/
def clockCostsUptoCard : Claim7 := { stood := { row := clockCostsUptoRow, standIns := [], harness := (true, "5182f2faf982d5762778f784454571d4d0fee920f43480a48a3473b77511f37f"), looks := true }, kinds := [], alts := [], laidByText := true, laidKinds := [.data, .data, .data, .sentinel, .sentinel, .widerDeep, .data], laidTests := true, laidLooks := .later }
def ClockCostsUptoCardSaid : Prop := Claim7.holds Tryd.pinned (.plain (OpenSpec.upto clockCostsSpec)) clockCostsUptoCard

/-- THE SECOND FORM's CARD OF 'ceilinglaw30.ClockTakes'. -/
def clockTakesUptoCard : Claim7 := { stood := { row := clockTakesUptoRow, standIns := [], harness := (true, "5182f2faf982d5762778f784454571d4d0fee920f43480a48a3473b77511f37f"), looks := true }, kinds := [], alts := [], laidByText := true, laidKinds := [.data, .data, .data, .sentinel, .sentinel, .widerDeep, .data], laidTests := true, laidLooks := .later }
def ClockTakesUptoCardSaid : Prop := Claim7.holds Tryd.pinned (.plain (OpenSpec.upto clockTakesSpec)) clockTakesUptoCard

/-- THE SECOND FORM's CARD OF 'ceilinglaw30.ClockBounds'. -/
def clockBoundsUptoCard : Claim7 := { stood := { row := clockBoundsUptoRow, standIns := [], harness := (true, "5182f2faf982d5762778f784454571d4d0fee920f43480a48a3473b77511f37f"), looks := true }, kinds := [], alts := [], laidByText := true, laidKinds := [.data, .data, .data, .sentinel, .sentinel, .widerDeep, .data], laidTests := true, laidLooks := .later }
def ClockBoundsUptoCardSaid : Prop := Claim7.holds Tryd.pinned (.plain (OpenSpec.upto clockBoundsSpec)) clockBoundsUptoCard

/-- THE SECOND FORM's CARD OF 'ceilinglaw30.ClockText'. -/
def clockTextUptoCard : Claim7 := { stood := { row := clockTextUptoRow, standIns := [], harness := (true, "5182f2faf982d5762778f784454571d4d0fee920f43480a48a3473b77511f37f"), looks := true }, kinds := [], alts := [], laidByText := true, laidKinds := [.data, .data, .data, .sentinel, .sentinel, .widerDeep, .data], laidTests := true, laidLooks := .later }
def ClockTextUptoCardSaid : Prop := Claim7.holds Tryd.pinned (.plain (OpenSpec.upto clockTextSpec)) clockTextUptoCard

/-- THE SECOND FORM's CARD OF 'ceilinglaw30.ClockBack'. -/
def clockBackUptoCard : Claim7 := { stood := { row := clockBackUptoRow, standIns := [], harness := (true, "5182f2faf982d5762778f784454571d4d0fee920f43480a48a3473b77511f37f"), looks := true }, kinds := [], alts := [], laidByText := true, laidKinds := [.data, .data, .data, .sentinel, .sentinel, .widerDeep, .data], laidTests := true, laidLooks := .later }
def ClockBackUptoCardSaid : Prop := Claim7.holds Tryd.pinned (.plain (OpenSpec.upto clockBackSpec)) clockBackUptoCard

/-- THE SECOND FORM's CARD OF 'ceilinglaw22.InsnMay'. -/
def insnMayUptoCard : Claim7 := { stood := { row := insnMayUptoRow, standIns := [], harness := (true, "5182f2faf982d5762778f784454571d4d0fee920f43480a48a3473b77511f37f"), looks := true }, kinds := [], alts := [], laidByText := true, laidKinds := [.data, .data, .data, .data, .sentinel, .sentinel, .listed, .data, .widerDeep, .pinned], laidTests := true, laidLooks := .later }
def InsnMayUptoCardSaid : Prop := Claim7.holds Tryd.pinned (.plain (OpenSpec.upto insnMaySpec)) insnMayUptoCard

/-- THE SECOND FORM's CARD OF 'ceilinglaw22.InsnOps'. -/
def insnOpsUptoCard : Claim7 := { stood := { row := insnOpsUptoRow, standIns := [], harness := (true, "5182f2faf982d5762778f784454571d4d0fee920f43480a48a3473b77511f37f"), looks := true }, kinds := [], alts := [], laidByText := true, laidKinds := [.data, .data, .data, .data, .sentinel, .sentinel, .listed, .data, .widerDeep, .pinned], laidTests := true, laidLooks := .later }
def InsnOpsUptoCardSaid : Prop := Claim7.holds Tryd.pinned (.plain (OpenSpec.upto insnOpsSpec)) insnOpsUptoCard

/-- THE SECOND FORM's CARD OF 'ceilinglaw22.InsnReads'. -/
def insnReadsUptoCard : Claim7 := { stood := { row := insnReadsUptoRow, standIns := [], harness := (true, "5182f2faf982d5762778f784454571d4d0fee920f43480a48a3473b77511f37f"), looks := true }, kinds := [], alts := [], laidByText := true, laidKinds := [.data, .data, .data, .data, .sentinel, .sentinel, .listed, .data, .widerDeep, .pinned], laidTests := true, laidLooks := .later }
def InsnReadsUptoCardSaid : Prop := Claim7.holds Tryd.pinned (.plain (OpenSpec.upto insnReadsSpec)) insnReadsUptoCard

/-- THE SECOND FORM's CARD OF 'ceilinglaw22.InsnGets'. -/
def insnGetsUptoCard : Claim7 := { stood := { row := insnGetsUptoRow, standIns := [], harness := (true, "5182f2faf982d5762778f784454571d4d0fee920f43480a48a3473b77511f37f"), looks := true }, kinds := [], alts := [], laidByText := true, laidKinds := [.data, .data, .data, .data, .sentinel, .sentinel, .listed, .data, .widerDeep, .pinned], laidTests := true, laidLooks := .later }
def InsnGetsUptoCardSaid : Prop := Claim7.holds Tryd.pinned (.plain (OpenSpec.upto insnGetsSpec)) insnGetsUptoCard

/-- THE SECOND FORM's CARD OF 'ceilinglaw22.InsnBack'. -/
def insnBackUptoCard : Claim7 := { stood := { row := insnBackUptoRow, standIns := [], harness := (true, "5182f2faf982d5762778f784454571d4d0fee920f43480a48a3473b77511f37f"), looks := true }, kinds := [], alts := [], laidByText := true, laidKinds := [.data, .data, .data, .data, .sentinel, .sentinel, .listed, .data, .widerDeep, .pinned], laidTests := true, laidLooks := .later }
def InsnBackUptoCardSaid : Prop := Claim7.holds Tryd.pinned (.plain (OpenSpec.upto insnBackSpec)) insnBackUptoCard

/-- THE SECOND FORM's CARD OF 'ceilinglaw22.InsnNames'. -/
def insnNamesUptoCard : Claim7 := { stood := { row := insnNamesUptoRow, standIns := [], harness := (true, "5182f2faf982d5762778f784454571d4d0fee920f43480a48a3473b77511f37f"), looks := true }, kinds := [], alts := [], laidByText := true, laidKinds := [.data, .data, .data, .data, .sentinel, .sentinel, .listed, .data, .widerDeep, .pinned], laidTests := true, laidLooks := .later }
def InsnNamesUptoCardSaid : Prop := Claim7.holds Tryd.pinned (.plain (OpenSpec.upto insnNamesSpec)) insnNamesUptoCard
end Rows
end Go.Proofs.YtbefgogblpebfaaDoor
