/-
  DERIVED. GIVEN WITH THE SEED: THE CARDS: each row of YtocmbkaaioomdaaDoorRows.lean that lists a variable, with what it lists TIED to the program's text (the seventh form; the later family's looks); each row that meets fmt, with fmt's text TOLD by the authors' own Lean function (tested against real Go, not proved from fmt's source: count such statements apart). THE CARD IS WHAT COUNTS. Prove the row's statement (the work); the ties are given (YtocmbkaaioomdaaDoorTie.lean); close each card by the builder's one call (the guide's Derived/Test/ToyasCard.lean, 'card_holds'). Laid BY PROGRAM, IN A SANDBOX (cutbox-door.mjs). By AI agents, Wed Nov 11 2026. No macro, syntax, notation, axiom, sorry.
-/
import Derived.Test.YtocmbkaaioomdaaDoorRows
import GoSem.ClaimSeven
namespace Go.Proofs.YtocmbkaaioomdaaDoor
namespace Rows

/-- THE TIED CARD OF 'ceilinglaw35.TraceTexts'. -/
def traceTextsCard : Claim7 := { stood := { row := traceTextsRow, standIns := [], harness := (true, "ffbfd59a3c15c5d718428a87c33582e30bc4d0a741e9b42cdf2d97180e5b4bbe"), looks := true }, kinds := [], alts := [], laidByText := true, laidKinds := [.data, .data, .data, .sentinel, .sentinel, .widerDeep], laidTests := true, laidLooks := .later }
def TraceTextsCardSaid : Prop := Claim7.holds Tryd.pinned (.plain (OpenSpec.ofChange traceTextsSpec)) traceTextsCard

/-- THE TIED CARD OF 'ceilinglaw35.TraceReads'. -/
def traceReadsCard : Claim7 := { stood := { row := traceReadsRow, standIns := [], harness := (true, "ffbfd59a3c15c5d718428a87c33582e30bc4d0a741e9b42cdf2d97180e5b4bbe"), looks := true }, kinds := [], alts := [], laidByText := true, laidKinds := [.data, .data, .data, .sentinel, .sentinel, .widerDeep], laidTests := true, laidLooks := .later }
def TraceReadsCardSaid : Prop := Claim7.holds Tryd.pinned (.plain (OpenSpec.ofChange traceReadsSpec)) traceReadsCard

/-- THE TIED CARD OF 'ceilinglaw35.TraceApart'. -/
def traceApartCard : Claim7 := { stood := { row := traceApartRow, standIns := [], harness := (true, "ffbfd59a3c15c5d718428a87c33582e30bc4d0a741e9b42cdf2d97180e5b4bbe"), looks := true }, kinds := [], alts := [], laidByText := true, laidKinds := [.data, .data, .data, .sentinel, .sentinel, .widerDeep], laidTests := true, laidLooks := .later }
def TraceApartCardSaid : Prop := Claim7.holds Tryd.pinned (.plain (OpenSpec.ofChange traceApartSpec)) traceApartCard

/-- THE TIED CARD OF 'ceilinglaw35.TracePicks'. -/
def tracePicksCard : Claim7 := { stood := { row := tracePicksRow, standIns := [], harness := (true, "ffbfd59a3c15c5d718428a87c33582e30bc4d0a741e9b42cdf2d97180e5b4bbe"), looks := true }, kinds := [], alts := [], laidByText := true, laidKinds := [.data, .data, .data, .sentinel, .sentinel, .widerDeep], laidTests := true, laidLooks := .later }
def TracePicksCardSaid : Prop := Claim7.holds Tryd.pinned (.plain (OpenSpec.ofChange tracePicksSpec)) tracePicksCard

/-- THE TIED CARD OF 'ceilinglaw35.TraceUnion'. -/
def traceUnionCard : Claim7 := { stood := { row := traceUnionRow, standIns := [], harness := (true, "ffbfd59a3c15c5d718428a87c33582e30bc4d0a741e9b42cdf2d97180e5b4bbe"), looks := true }, kinds := [], alts := [], laidByText := true, laidKinds := [.data, .data, .data, .sentinel, .sentinel, .widerDeep], laidTests := true, laidLooks := .later }
def TraceUnionCardSaid : Prop := Claim7.holds Tryd.pinned (.plain (OpenSpec.ofChange traceUnionSpec)) traceUnionCard

/-- THE TIED CARD OF 'ceilinglaw35.TraceBack'. -/
def traceBackCard : Claim7 := { stood := { row := traceBackRow, standIns := [], harness := (true, "ffbfd59a3c15c5d718428a87c33582e30bc4d0a741e9b42cdf2d97180e5b4bbe"), looks := true }, kinds := [], alts := [], laidByText := true, laidKinds := [.data, .data, .data, .sentinel, .sentinel, .widerDeep], laidTests := true, laidLooks := .later }
def TraceBackCardSaid : Prop := Claim7.holds Tryd.pinned (.plain (OpenSpec.ofChange traceBackSpec)) traceBackCard

/-- THE TIED CARD OF 'ceilinglaw35.TraceAgain'. -/
def traceAgainCard : Claim7 := { stood := { row := traceAgainRow, standIns := [], harness := (true, "ffbfd59a3c15c5d718428a87c33582e30bc4d0a741e9b42cdf2d97180e5b4bbe"), looks := true }, kinds := [], alts := [], laidByText := true, laidKinds := [.data, .data, .data, .data, .sentinel, .sentinel, .widerDeep, .pinned], laidTests := true, laidLooks := .later }
def TraceAgainCardSaid : Prop := Claim7.holds Tryd.pinned (.plain (OpenSpec.ofChange traceAgainSpec)) traceAgainCard

/-- THE SECOND FORM's CARD OF 'ceilinglaw35.TraceTexts'. -/
def traceTextsUptoCard : Claim7 := { stood := { row := traceTextsUptoRow, standIns := [], harness := (true, "ffbfd59a3c15c5d718428a87c33582e30bc4d0a741e9b42cdf2d97180e5b4bbe"), looks := true }, kinds := [], alts := [], laidByText := true, laidKinds := [.data, .data, .data, .sentinel, .sentinel, .widerDeep], laidTests := true, laidLooks := .later }
def TraceTextsUptoCardSaid : Prop := Claim7.holds Tryd.pinned (.plain (OpenSpec.upto traceTextsSpec)) traceTextsUptoCard

/-- THE SECOND FORM's CARD OF 'ceilinglaw35.TraceReads'. -/
def traceReadsUptoCard : Claim7 := { stood := { row := traceReadsUptoRow, standIns := [], harness := (true, "ffbfd59a3c15c5d718428a87c33582e30bc4d0a741e9b42cdf2d97180e5b4bbe"), looks := true }, kinds := [], alts := [], laidByText := true, laidKinds := [.data, .data, .data, .sentinel, .sentinel, .widerDeep], laidTests := true, laidLooks := .later }
def TraceReadsUptoCardSaid : Prop := Claim7.holds Tryd.pinned (.plain (OpenSpec.upto traceReadsSpec)) traceReadsUptoCard

/-- THE SECOND FORM's CARD OF 'ceilinglaw35.TraceApart'. -/
def traceApartUptoCard : Claim7 := { stood := { row := traceApartUptoRow, standIns := [], harness := (true, "ffbfd59a3c15c5d718428a87c33582e30bc4d0a741e9b42cdf2d97180e5b4bbe"), looks := true }, kinds := [], alts := [], laidByText := true, laidKinds := [.data, .data, .data, .sentinel, .sentinel, .widerDeep], laidTests := true, laidLooks := .later }
def TraceApartUptoCardSaid : Prop := Claim7.holds Tryd.pinned (.plain (OpenSpec.upto traceApartSpec)) traceApartUptoCard

/-- THE SECOND FORM's CARD OF 'ceilinglaw35.TracePicks'. -/
def tracePicksUptoCard : Claim7 := { stood := { row := tracePicksUptoRow, standIns := [], harness := (true, "ffbfd59a3c15c5d718428a87c33582e30bc4d0a741e9b42cdf2d97180e5b4bbe"), looks := true }, kinds := [], alts := [], laidByText := true, laidKinds := [.data, .data, .data, .sentinel, .sentinel, .widerDeep], laidTests := true, laidLooks := .later }
def TracePicksUptoCardSaid : Prop := Claim7.holds Tryd.pinned (.plain (OpenSpec.upto tracePicksSpec)) tracePicksUptoCard

/-- THE SECOND FORM's CARD OF 'ceilinglaw35.TraceUnion'. -/
def traceUnionUptoCard : Claim7 := { stood := { row := traceUnionUptoRow, standIns := [], harness := (true, "ffbfd59a3c15c5d718428a87c33582e30bc4d0a741e9b42cdf2d97180e5b4bbe"), looks := true }, kinds := [], alts := [], laidByText := true, laidKinds := [.data, .data, .data, .sentinel, .sentinel, .widerDeep], laidTests := true, laidLooks := .later }
def TraceUnionUptoCardSaid : Prop := Claim7.holds Tryd.pinned (.plain (OpenSpec.upto traceUnionSpec)) traceUnionUptoCard

/-- THE SECOND FORM's CARD OF 'ceilinglaw35.TraceBack'. -/
def traceBackUptoCard : Claim7 := { stood := { row := traceBackUptoRow, standIns := [], harness := (true, "ffbfd59a3c15c5d718428a87c33582e30bc4d0a741e9b42cdf2d97180e5b4bbe"), looks := true }, kinds := [], alts := [], laidByText := true, laidKinds := [.data, .data, .data, .sentinel, .sentinel, .widerDeep], laidTests := true, laidLooks := .later }
def TraceBackUptoCardSaid : Prop := Claim7.holds Tryd.pinned (.plain (OpenSpec.upto traceBackSpec)) traceBackUptoCard

/-- THE SECOND FORM's CARD OF 'ceilinglaw35.TraceAgain'. -/
def traceAgainUptoCard : Claim7 := { stood := { row := traceAgainUptoRow, standIns := [], harness := (true, "ffbfd59a3c15c5d718428a87c33582e30bc4d0a741e9b42cdf2d97180e5b4bbe"), looks := true }, kinds := [], alts := [], laidByText := true, laidKinds := [.data, .data, .data, .data, .sentinel, .sentinel, .widerDeep, .pinned], laidTests := true, laidLooks := .later }
def TraceAgainUptoCardSaid : Prop := Claim7.holds Tryd.pinned (.plain (OpenSpec.upto traceAgainSpec)) traceAgainUptoCard
end Rows
end Go.Proofs.YtocmbkaaioomdaaDoor
