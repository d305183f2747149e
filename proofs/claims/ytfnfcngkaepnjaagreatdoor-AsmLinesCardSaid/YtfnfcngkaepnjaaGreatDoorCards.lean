/-
  DERIVED. GIVEN WITH THE SEED: THE CARDS: each row of YtfnfcngkaepnjaaGreatDoorRows.lean that lists a variable, with what it lists TIED to the program's text (the seventh form; the later family's looks); each row that meets fmt, with fmt's text TOLD by the authors' own Lean function (tested against real Go, not proved from fmt's source: count such statements apart). THE CARD IS WHAT COUNTS. Prove the row's statement (the work); the ties are given (YtfnfcngkaepnjaaGreatDoorTie.lean); close each card by the builder's one call (the guide's Derived/Test/ToyasCard.lean, 'card_holds'). Laid BY PROGRAM, IN A SANDBOX (cutbox-door.mjs). By AI agents, Wed Nov 11 2026. No macro, syntax, notation, axiom, sorry.
-/
import Derived.Test.YtfnfcngkaepnjaaGreatDoorRows
import GoSem.ClaimSeven
namespace Go.Proofs.YtfnfcngkaepnjaaGreatDoor
namespace Rows

/-- THE TIED CARD OF 'linesmanlaw08.InstrEach'. -/
def instrEachCard : Claim7 := { stood := { row := instrEachRow, standIns := [], harness := (true, "4fcd97462382e406abe2292c34750000d87ddbc5d172b9007fbb1b7833a7a29b"), looks := true }, kinds := [], alts := [], laidByText := true, laidKinds := [.data, .data, .data, .data, .sentinel, .sentinel, .pinned], laidTests := true, laidLooks := .later }
def InstrEachCardSaid : Prop := Claim7.holds Tryz.pinned (.plain (OpenSpec.ofChange instrEachSpec)) instrEachCard

/-- THE TIED CARD OF 'linesmanlaw07.SiteSets'. -/
def siteSetsCard : Claim7 := { stood := { row := siteSetsRow, standIns := [], harness := (true, "4fcd97462382e406abe2292c34750000d87ddbc5d172b9007fbb1b7833a7a29b"), looks := true }, kinds := [], alts := [], laidByText := true, laidKinds := [.data, .data, .data, .sentinel, .sentinel], laidTests := true, laidLooks := .later }
def SiteSetsCardSaid : Prop := Claim7.holds Tryz.pinned (.plain (OpenSpec.ofChange siteSetsSpec)) siteSetsCard

/-- THE TIED CARD OF 'linesmanlaw11.AsmPrints'. -/
def asmPrintsCard : Claim7 := { stood := { row := asmPrintsRow, standIns := [], harness := (true, "4fcd97462382e406abe2292c34750000d87ddbc5d172b9007fbb1b7833a7a29b"), looks := true }, kinds := [], alts := [], laidByText := true, laidKinds := [.data, .data, .data, .data, .sentinel, .sentinel, .pinned], laidTests := true, laidLooks := .later }
def AsmPrintsCardSaid : Prop := Claim7.holds Tryz.pinned (.plain (OpenSpec.ofChange asmPrintsSpec)) asmPrintsCard

/-- THE TIED CARD OF 'linesmanlaw11.AsmParses'. -/
def asmParsesCard : Claim7 := { stood := { row := asmParsesRow, standIns := [], harness := (true, "4fcd97462382e406abe2292c34750000d87ddbc5d172b9007fbb1b7833a7a29b"), looks := true }, kinds := [], alts := [], laidByText := true, laidKinds := [.data, .data, .data, .data, .sentinel, .sentinel, .pinned], laidTests := true, laidLooks := .later }
def AsmParsesCardSaid : Prop := Claim7.holds Tryz.pinned (.plain (OpenSpec.ofChange asmParsesSpec)) asmParsesCard

/-- THE TIED CARD OF 'linesmanlaw11.AsmBent'. -/
def asmBentCard : Claim7 := { stood := { row := asmBentRow, standIns := [], harness := (true, "4fcd97462382e406abe2292c34750000d87ddbc5d172b9007fbb1b7833a7a29b"), looks := true }, kinds := [], alts := [], laidByText := true, laidKinds := [.data, .data, .data, .data, .sentinel, .sentinel, .pinned], laidTests := true, laidLooks := .later }
def AsmBentCardSaid : Prop := Claim7.holds Tryz.pinned (.plain (OpenSpec.ofChange asmBentSpec)) asmBentCard

/-- THE TIED CARD OF 'linesmanlaw11.AsmHolds'. -/
def asmHoldsCard : Claim7 := { stood := { row := asmHoldsRow, standIns := [], harness := (true, "4fcd97462382e406abe2292c34750000d87ddbc5d172b9007fbb1b7833a7a29b"), looks := true }, kinds := [], alts := [], laidByText := true, laidKinds := [.data, .data, .data, .data, .sentinel, .sentinel, .pinned], laidTests := true, laidLooks := .later }
def AsmHoldsCardSaid : Prop := Claim7.holds Tryz.pinned (.plain (OpenSpec.ofChange asmHoldsSpec)) asmHoldsCard

/-- THE TIED CARD OF 'linesmanlaw11.AsmLines'. -/
def asmLinesCard : Claim7 := { stood := { row := asmLinesRow, standIns := [], harness := (true, "4fcd97462382e406abe2292c34750000d87ddbc5d172b9007fbb1b7833a7a29b"), looks := true }, kinds := [], alts := [], laidByText := true, laidKinds := [.data, .data, .data, .data, .sentinel, .sentinel, .pinned], laidTests := true, laidLooks := .later }
def AsmLinesCardSaid : Prop := Claim7.holds Tryz.pinned (.plain (OpenSpec.ofChange asmLinesSpec)) asmLinesCard

/-- THE SECOND FORM's CARD OF 'linesmanlaw08.InstrEach'. -/
def instrEachUptoCard : Claim7 := { stood := { row := instrEachUptoRow, standIns := [], harness := (true, "4fcd97462382e406abe2292c34750000d87ddbc5d172b9007fbb1b7833a7a29b"), looks := true }, kinds := [], alts := [], laidByText := true, laidKinds := [.data, .data, .data, .data, .sentinel, .sentinel, .pinned], laidTests := true, laidLooks := .later }
def InstrEachUptoCardSaid : Prop := Claim7.holds Tryz.pinned (.plain (OpenSpec.upto instrEachSpec)) instrEachUptoCard

/-- THE SECOND FORM's CARD OF 'linesmanlaw07.SiteSets'. -/
def siteSetsUptoCard : Claim7 := { stood := { row := siteSetsUptoRow, standIns := [], harness := (true, "4fcd97462382e406abe2292c34750000d87ddbc5d172b9007fbb1b7833a7a29b"), looks := true }, kinds := [], alts := [], laidByText := true, laidKinds := [.data, .data, .data, .sentinel, .sentinel], laidTests := true, laidLooks := .later }
def SiteSetsUptoCardSaid : Prop := Claim7.holds Tryz.pinned (.plain (OpenSpec.upto siteSetsSpec)) siteSetsUptoCard

/-- THE SECOND FORM's CARD OF 'linesmanlaw11.AsmPrints'. -/
def asmPrintsUptoCard : Claim7 := { stood := { row := asmPrintsUptoRow, standIns := [], harness := (true, "4fcd97462382e406abe2292c34750000d87ddbc5d172b9007fbb1b7833a7a29b"), looks := true }, kinds := [], alts := [], laidByText := true, laidKinds := [.data, .data, .data, .data, .sentinel, .sentinel, .pinned], laidTests := true, laidLooks := .later }
def AsmPrintsUptoCardSaid : Prop := Claim7.holds Tryz.pinned (.plain (OpenSpec.upto asmPrintsSpec)) asmPrintsUptoCard

/-- THE SECOND FORM's CARD OF 'linesmanlaw11.AsmParses'. -/
def asmParsesUptoCard : Claim7 := { stood := { row := asmParsesUptoRow, standIns := [], harness := (true, "4fcd97462382e406abe2292c34750000d87ddbc5d172b9007fbb1b7833a7a29b"), looks := true }, kinds := [], alts := [], laidByText := true, laidKinds := [.data, .data, .data, .data, .sentinel, .sentinel, .pinned], laidTests := true, laidLooks := .later }
def AsmParsesUptoCardSaid : Prop := Claim7.holds Tryz.pinned (.plain (OpenSpec.upto asmParsesSpec)) asmParsesUptoCard

/-- THE SECOND FORM's CARD OF 'linesmanlaw11.AsmBent'. -/
def asmBentUptoCard : Claim7 := { stood := { row := asmBentUptoRow, standIns := [], harness := (true, "4fcd97462382e406abe2292c34750000d87ddbc5d172b9007fbb1b7833a7a29b"), looks := true }, kinds := [], alts := [], laidByText := true, laidKinds := [.data, .data, .data, .data, .sentinel, .sentinel, .pinned], laidTests := true, laidLooks := .later }
def AsmBentUptoCardSaid : Prop := Claim7.holds Tryz.pinned (.plain (OpenSpec.upto asmBentSpec)) asmBentUptoCard

/-- THE SECOND FORM's CARD OF 'linesmanlaw11.AsmHolds'. -/
def asmHoldsUptoCard : Claim7 := { stood := { row := asmHoldsUptoRow, standIns := [], harness := (true, "4fcd97462382e406abe2292c34750000d87ddbc5d172b9007fbb1b7833a7a29b"), looks := true }, kinds := [], alts := [], laidByText := true, laidKinds := [.data, .data, .data, .data, .sentinel, .sentinel, .pinned], laidTests := true, laidLooks := .later }
def AsmHoldsUptoCardSaid : Prop := Claim7.holds Tryz.pinned (.plain (OpenSpec.upto asmHoldsSpec)) asmHoldsUptoCard

/-- THE SECOND FORM's CARD OF 'linesmanlaw11.AsmLines'. -/
def asmLinesUptoCard : Claim7 := { stood := { row := asmLinesUptoRow, standIns := [], harness := (true, "4fcd97462382e406abe2292c34750000d87ddbc5d172b9007fbb1b7833a7a29b"), looks := true }, kinds := [], alts := [], laidByText := true, laidKinds := [.data, .data, .data, .data, .sentinel, .sentinel, .pinned], laidTests := true, laidLooks := .later }
def AsmLinesUptoCardSaid : Prop := Claim7.holds Tryz.pinned (.plain (OpenSpec.upto asmLinesSpec)) asmLinesUptoCard
end Rows
end Go.Proofs.YtfnfcngkaepnjaaGreatDoor
