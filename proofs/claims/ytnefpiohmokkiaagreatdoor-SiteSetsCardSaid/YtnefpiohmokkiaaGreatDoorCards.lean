/-
  DERIVED. GIVEN WITH THE SEED: THE CARDS: each row of YtnefpiohmokkiaaGreatDoorRows.lean that lists a variable, with what it lists TIED to the program's text (the seventh form; the later family's looks); each row that meets fmt, with fmt's text TOLD by the authors' own Lean function (tested against real Go, not proved from fmt's source: count such statements apart). THE CARD IS WHAT COUNTS. Prove the row's statement (the work); the ties are given (YtnefpiohmokkiaaGreatDoorTie.lean); close each card by the builder's one call (the guide's Derived/Test/ToyasCard.lean, 'card_holds'). Laid BY PROGRAM, IN A SANDBOX (cutbox-door.mjs). By AI agents, Wed Nov 11 2026. No macro, syntax, notation, axiom, sorry.
-/
import Derived.Test.YtnefpiohmokkiaaGreatDoorRows
import GoSem.ClaimSeven
namespace Go.Proofs.YtnefpiohmokkiaaGreatDoor
namespace Rows

/-- THE TIED CARD OF 'linesmanlaw07.SiteSets'. -/
def siteSetsCard : Claim7 := { stood := { row := siteSetsRow, standIns := [], harness := (true, "fdd60562ae24a9517d655fe79a1e697c1fc963a1073bc0affa0eec22ba85657e"), looks := true }, kinds := [], alts := [], laidByText := true, laidKinds := [.data, .data, .data, .sentinel, .sentinel], laidTests := true, laidLooks := .later }
def SiteSetsCardSaid : Prop := Claim7.holds Tryz.pinned (.plain (OpenSpec.ofChange siteSetsSpec)) siteSetsCard

/-- THE TIED CARD OF 'linesmanlaw18.MachineHolds'. -/
def machineHoldsCard : Claim7 := { stood := { row := machineHoldsRow, standIns := [], harness := (true, "fdd60562ae24a9517d655fe79a1e697c1fc963a1073bc0affa0eec22ba85657e"), looks := true }, kinds := [], alts := [], laidByText := true, laidKinds := [.data, .data, .data], laidTests := true, laidLooks := .later }
def MachineHoldsCardSaid : Prop := Claim7.holds Tryz.pinned (.plain (OpenSpec.ofChange machineHoldsSpec)) machineHoldsCard

/-- THE SECOND FORM's CARD OF 'linesmanlaw07.SiteSets'. -/
def siteSetsUptoCard : Claim7 := { stood := { row := siteSetsUptoRow, standIns := [], harness := (true, "fdd60562ae24a9517d655fe79a1e697c1fc963a1073bc0affa0eec22ba85657e"), looks := true }, kinds := [], alts := [], laidByText := true, laidKinds := [.data, .data, .data, .sentinel, .sentinel], laidTests := true, laidLooks := .later }
def SiteSetsUptoCardSaid : Prop := Claim7.holds Tryz.pinned (.plain (OpenSpec.upto siteSetsSpec)) siteSetsUptoCard

/-- THE SECOND FORM's CARD OF 'linesmanlaw18.MachineHolds'. -/
def machineHoldsUptoCard : Claim7 := { stood := { row := machineHoldsUptoRow, standIns := [], harness := (true, "fdd60562ae24a9517d655fe79a1e697c1fc963a1073bc0affa0eec22ba85657e"), looks := true }, kinds := [], alts := [], laidByText := true, laidKinds := [.data, .data, .data], laidTests := true, laidLooks := .later }
def MachineHoldsUptoCardSaid : Prop := Claim7.holds Tryz.pinned (.plain (OpenSpec.upto machineHoldsSpec)) machineHoldsUptoCard
end Rows
end Go.Proofs.YtnefpiohmokkiaaGreatDoor
